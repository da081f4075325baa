/- More of the memory's parts: a block as a row of bytes. -/
import Derived.Test.YtdlplmflimleaaaMem
namespace Go.Proofs.Ytdlplmflimleaaa
open Go.RowKit

theorem Blk.rb {w : World} {g : Nat} {t : TypeId} {cs : Array Value} (hb : Blk w g t cs) (bs : List UInt8) (n : Nat) (hn : bs.length = n) (h : ∀ j (hj : j < bs.length), cs[j]? = some (bv bs[j])) : RB w (g + 1) (some ⟨g, 0, none⟩) n bs :=
  ⟨hn, fun _ => ⟨g, 0, rfl, by omega, fun j hj => by rw [hb.cell, Nat.zero_add]; exact h j hj⟩⟩
theorem RB.at_mono {w : World} {B B' : Nat} {A : Option Addr} {n : Nat} {bs : List UInt8} (h : RB w B A n bs) (hB : B ≤ B') : RB w B' A n bs := h.mono hB
end Go.Proofs.Ytdlplmflimleaaa
