/- The contract of the reference's Encode. -/
import Derived.Test.YtmdgopclcdmenaaUtfD
namespace Go.Proofs.Ytmdgopclcdmenaa
open Go.RowKit
set_option linter.unusedSimpArgs false
set_option linter.unusedVariables false

/-- The reference's Encode. -/
theorem rencode_no (r : Int) (w : World) (h : scalB r = false) : Calls Try.prog 15 #[.int .i32 r] w fun e w' => e = .returned (.string ⟨#[]⟩) ∧ w = w' := by
  have hc := fun W => scalar_any r W
  rw [h] at hc
  have HC := Lib.hid hc
  clear hc h
  go_enter Try.func15, Try.ntmps15
  go_wp2_with (go_at_call 16; refine (HC.out _).mono ?_; rintro e w' ⟨rfl, rfl⟩)
  go_ret
  exact ⟨rfl, rfl⟩

theorem rv_new (w : World) (t : TypeId) (vs : List Value) : RV (w.alloc (.cells vs.toArray t)) (w.heap.size + 1) (some ⟨w.heap.size, 0, none⟩) vs.length vs :=
  ⟨rfl, fun _ => ⟨w.heap.size, 0, rfl, by omega, fun j hj => by rw [(Blk.new w t vs.toArray).cell]; simp [hj]⟩⟩

theorem enc_cells (n : Nat) (hn : Scal n) : (enc n).map bv = if n < 128 then [.int .u8 n] else if n < 2048 then [.int .u8 (192 + (n : Int) / 64), .int .u8 (128 + (n : Int) % 64)]
    else if n < 65536 then [.int .u8 (224 + (n : Int) / 4096), .int .u8 (128 + (n : Int) / 64 % 64), .int .u8 (128 + (n : Int) % 64)]
    else [.int .u8 (240 + (n : Int) / 262144), .int .u8 (128 + (n : Int) / 4096 % 64), .int .u8 (128 + (n : Int) / 64 % 64), .int .u8 (128 + (n : Int) % 64)] := by
  have hs : n < 1114112 := by unfold Scal at hn; omega
  have hv : ∀ m : Nat, m < 256 → bv (UInt8.ofNat m) = .int .u8 (m : Int) := fun m hm => by show Value.int .u8 _ = _; rw [toNat_ofNat hm]
  unfold enc
  by_cases h1 : n < 128
  · rw [if_pos h1, if_pos h1]; simp only [List.map_cons, List.map_nil, hv n (by omega)]
  · by_cases h2 : n < 2048
    · rw [if_neg h1, if_pos h2, if_neg h1, if_pos h2]
      simp only [List.map_cons, List.map_nil, hv (192 + n / 64) (by omega), hv (128 + n % 64) (by omega)]
      rfl
    · by_cases h3 : n < 65536
      · rw [if_neg h1, if_neg h2, if_pos h3, if_neg h1, if_neg h2, if_pos h3]
        simp only [List.map_cons, List.map_nil, hv (224 + n / 4096) (by omega), hv (128 + n / 64 % 64) (by omega), hv (128 + n % 64) (by omega)]
        rfl
      · rw [if_neg h1, if_neg h2, if_neg h3, if_neg h1, if_neg h2, if_neg h3]
        simp only [List.map_cons, List.map_nil, hv (240 + n / 262144) (by omega), hv (128 + n / 4096 % 64) (by omega), hv (128 + n / 64 % 64) (by omega), hv (128 + n % 64) (by omega)]
        rfl

set_option maxRecDepth 100000 in
set_option maxHeartbeats 1000000 in
theorem rencode_ok (n : Nat) (w : World) (h : Scal n) : Calls Try.prog 15 #[.int .i32 n] w fun e w' => e = .returned (.string ⟨(enc n).toArray⟩) ∧ Below w.heap.size w w' := by
  have hs : n < 1114112 := by unfold Scal at h; omega
  have hc := fun W => scalar_any n W
  have hB : scalB (n : Int) = true := by unfold Scal at h; simp [scalB]; omega
  rw [hB] at hc
  have HC := Lib.hid hc
  have hec := enc_cells n h
  clear hc hB h
  by_cases h1 : n < 128
  · rw [if_pos h1] at hec
    have HEC := Lib.hid hec
    clear hec
    go_enter Try.func15, Try.ntmps15
    go_wp2_with (first
      | (go_at_call 16; refine (HC.out _).mono ?_; rintro e w' ⟨rfl, rfl⟩)
      | (at_builtin; refine wpList_app (ok := fun _ => True) ei_u8 trivial rfl (.tmp 12) (.tmp 15) rfl w.heap.size _ 0 [] rfl (OwnR.nil _ _ _ _) _ _ _ _ _ rfl (rv_new w 5 [.int .u8 n]) (fun u hu => by simp at hu; subst hu; rfl) (by decide) (by decide) (by simp) ?_; intro A' c' w' hown' hg' hat'; rw [List.nil_append, ← HEC.out] at hown'; have ks := fun c'' => str_of_RB hown'.rv.rb c''; clear hown' hat'))
    go_ret
    exact ⟨rfl, ((Below.refl _ _).alloc (Nat.le_refl _) _).grown hg' (by simp) (fun k hk => by cases hk)⟩
  by_cases h2 : n < 2048
  · rw [if_neg h1, if_pos h2] at hec
    have HEC := Lib.hid hec
    clear hec
    go_enter Try.func15, Try.ntmps15
    go_wp2_with (first
      | (go_at_call 16; refine (HC.out _).mono ?_; rintro e w' ⟨rfl, rfl⟩)
      | (at_builtin; refine wpList_app (ok := fun _ => True) ei_u8 trivial rfl (.tmp 19) (.tmp 28) rfl w.heap.size _ 0 [] rfl (OwnR.nil _ _ _ _) _ _ _ _ _ rfl (rv_new w 5 [.int .u8 (192 + (n : Int) / 64), .int .u8 (128 + (n : Int) % 64)]) (fun u hu => by simp at hu; (rcases hu with rfl | rfl) <;> rfl) (by decide) (by decide) (by simp) ?_; intro A' c' w' hown' hg' hat'; rw [List.nil_append, ← HEC.out] at hown'; have ks := fun c'' => str_of_RB hown'.rv.rb c''; clear hown' hat'))
    go_ret
    exact ⟨rfl, ((Below.refl _ _).alloc (Nat.le_refl _) _).grown hg' (by simp) (fun k hk => by cases hk)⟩
  by_cases h3 : n < 65536
  · rw [if_neg h1, if_neg h2, if_pos h3] at hec
    have HEC := Lib.hid hec
    have d1 : decide ((n : Int) < 128) = false := by simp; omega
    have d2 : decide ((n : Int) < 2048) = false := by simp; omega
    have d3 : decide ((n : Int) < 65536) = true := by simp; omega
    have b1 : (n : Int) ≤ 65535 := by omega
    clear hec h1 h2 h3 hs
    go_enter Try.func15, Try.ntmps15
    go_wp2_with (first
      | (go_at_call 16; refine (HC.out _).mono ?_; rintro e w' ⟨rfl, rfl⟩)
      | (at_builtin; refine wpList_app (ok := fun _ => True) ei_u8 trivial rfl (.tmp 32) (.tmp 46) rfl w.heap.size _ 0 [] rfl (OwnR.nil _ _ _ _) _ _ _ _ _ rfl (rv_new w 5 [.int .u8 (224 + (n : Int) / 4096), .int .u8 (128 + (n : Int) / 64 % 64), .int .u8 (128 + (n : Int) % 64)]) (fun u hu => by simp at hu; (rcases hu with rfl | rfl | rfl) <;> rfl) (by decide) (by decide) (by simp) ?_; intro A' c' w' hown' hg' hat'; rw [List.nil_append, ← HEC.out] at hown'; have ks := fun c'' => str_of_RB hown'.rv.rb c''; clear hown' hat'))
    go_ret
    exact ⟨rfl, ((Below.refl _ _).alloc (Nat.le_refl _) _).grown hg' (by simp) (fun k hk => by cases hk)⟩
  · rw [if_neg h1, if_neg h2, if_neg h3] at hec
    have HEC := Lib.hid hec
    have d1 : decide ((n : Int) < 128) = false := by simp; omega
    have d2 : decide ((n : Int) < 2048) = false := by simp; omega
    have d3 : decide ((n : Int) < 65536) = false := by simp; omega
    have b1 : (n : Int) ≤ 1114111 := by omega
    clear hec h1 h2 h3 hs
    go_enter Try.func15, Try.ntmps15
    go_wp2_with (first
      | (go_at_call 16; refine (HC.out _).mono ?_; rintro e w' ⟨rfl, rfl⟩)
      | (at_builtin; refine wpList_app (ok := fun _ => True) ei_u8 trivial rfl (.tmp 48) (.tmp 67) rfl w.heap.size _ 0 [] rfl (OwnR.nil _ _ _ _) _ _ _ _ _ rfl (rv_new w 5 [.int .u8 (240 + (n : Int) / 262144), .int .u8 (128 + (n : Int) / 4096 % 64), .int .u8 (128 + (n : Int) / 64 % 64), .int .u8 (128 + (n : Int) % 64)]) (fun u hu => by simp at hu; (rcases hu with rfl | rfl | rfl | rfl) <;> rfl) (by decide) (by decide) (by simp) ?_; intro A' c' w' hown' hg' hat'; rw [List.nil_append, ← HEC.out] at hown'; have ks := fun c'' => str_of_RB hown'.rv.rb c''; clear hown' hat'))
    go_ret
    exact ⟨rfl, ((Below.refl _ _).alloc (Nat.le_refl _) _).grown hg' (by simp) (fun k hk => by cases hk)⟩
end Go.Proofs.Ytmdgopclcdmenaa
