/- A block known whole stays where nothing that was there changes. Over any program. -/
import Derived.Test.YtdlplmflimleaaaMem
namespace Go.Proofs.Ytdlplmflimleaaa
open Go.RowKit
theorem Blk.st {w w' : World} {g : Nat} {t : TypeId} {cs : Array Value} (h : Blk w g t cs) (hb : Below w.heap.size w w') : Blk w' g t cs := h.below hb h.lt
theorem Blk.new2 (w : World) (t : TypeId) (cs : Array Value) (o : Obj) : Blk ((w.alloc o).alloc (.cells cs t)) (w.heap.size + 1) t cs := by
  have := Blk.new (w.alloc o) t cs
  rwa [World.size_alloc] at this
theorem Blk.new3 (w : World) (t : TypeId) (cs : Array Value) (o o' : Obj) : Blk (((w.alloc o).alloc o').alloc (.cells cs t)) (w.heap.size + 2) t cs := by
  have := Blk.new2 (w.alloc o) t cs o'
  rwa [World.size_alloc] at this
end Go.Proofs.Ytdlplmflimleaaa
