/- The trie's readers Next, Path, Bytes, Find are walked. The trie's Path is walked. -/
import Derived.Test.YthgjckibnojnpaaTrieM
import Derived.Test.YthgjckibnojnpaaTrieP
import Derived.Test.YthgjckibnojnpaaPAx0
import Derived.BigQuiet
import Derived.Deep.DeepCutAuto
import Derived.Deep.LoopGhost
set_option linter.unusedVariables false
set_option linter.unusedSimpArgs false
namespace Go.Proofs.Ythgjckibnojnpaa
open Go.RowKit Go.Proofs.YthgjckibnojnpaaW.PrintWords Go.Proofs.YthgjckibnojnpaaW.PrintLast Pl

theorem TMut.at_ {W : World} {B g : Nat} {v : Value} {sts : List TS} (h : TMut W B g v sts) (hp : 0 < sts.length) (hl : sts.length ≤ 16777217) : TrieAt W g sts := by
  obtain ⟨q, cap, rfl, h1, h2, h3, h4⟩ := h.form hp
  refine ⟨h.blk.lt, ⟨q, cap, h.blk.cell 0, h1, h2, fun s hs j hj => ?_⟩, hl⟩
  exact (h.cell (List.getElem?_eq_getElem hs) j hj).1
theorem TrieAt.drewN {W : World} {g : Nat} {sts : List TS} (h : TrieAt W g sts) (n : Nat) : TrieAt (W.drewN n) g sts := h.below (pw_below_drewN (Below.refl _ _) n)

theorem trieNextNo (p : Option Addr) (N : Nat) (s : Int) (c : Int) (hs : ¬ (0 ≤ s ∧ s < N)) (w : World) (hL : Calls Try.prog 44 #[.pointer p] w fun e w' => e = .returned (.int .i64 N) ∧ w = w') :
    Calls Try.prog 47 #[.pointer p, .int .i64 s, .int .u8 c] w fun e w' => e = .returned (.tuple #[.int .i64 0, .bool false]) ∧ w = w' := by
  have hi := trieIs p N s w hL
  rw [decide_eq_false hs] at hi
  replace hi := Aside0.mk hi
  clear hL hs
  go_enter Try.func47, Try.ntmps47
  go_wp2_with fail
  refine hi.out.mono ?_
  rintro e w' ⟨rfl, rfl⟩
  go_wp2
  go_ret2
  exact ⟨rfl, rfl⟩
set_option maxHeartbeats 4000000 in
set_option maxRecDepth 20000 in
theorem trieNext (g : Nat) (sts : List TS) (s : Nat) (hs : s < sts.length) (c : Nat) (hc : c < 256) (w : World) (h : TrieAt w g sts) (f m : Nat) (hf : sts[s].first = (f : Int)) (hm : sts[s].many = (m : Int)) (hle : f + m ≤ sts.length)
    (hr : ∀ (i j : Nat) (t u : TS), f ≤ i → i < j → j < f + m → sts[i]? = some t → sts[j]? = some u → t.by_ < u.by_) :
    Calls Try.prog 47 #[.pointer (some ⟨g, 0, none⟩), .int .i64 s, .int .u8 c] w fun e w' => ((∃ (k : Nat) (t : TS), f ≤ k ∧ k < f + m ∧ sts[k]? = some t ∧ t.by_ = (c : Int) ∧ e = .returned (.tuple #[.int .i64 k, .bool true])) ∨
      ((∀ (k : Nat) (t : TS), f ≤ k → k < f + m → sts[k]? = some t → t.by_ ≠ (c : Int)) ∧ e = .returned (.tuple #[.int .i64 0, .bool false]))) ∧ ∃ n, w' = w.drewN n := by
  have hi := trieIs _ _ s w (trieLen g sts w h)
  rw [decide_eq_true (show (0 : Int) ≤ s ∧ (s : Int) < sts.length by omega)] at hi
  obtain ⟨q, cap, h1, h2, h3, h4⟩ := h.row
  have x1 : ((0 : Int) ≤ (s : Int)) = True := eq_true (by omega)
  have x2 : ((s : Int) < (sts.length : Int)) = True := eq_true (by omega)
  have hc4 := h4 s hs 4 (by omega)
  have hc5 := h4 s hs 5 (by omega)
  simp only [TS.cells, List.getElem?_cons_succ, List.getElem?_cons_zero, Nat.add_zero] at hc4 hc5
  rw [hf] at hc4
  rw [hm] at hc5
  clear hf hm
  have hlen := h.len
  replace h := Aside0.mk h
  replace h4 := Aside0.mk h4
  replace hi := Aside0.mk hi
  replace hr := Aside0.mk hr
  go_enter Try.func47, Try.ntmps47
  go_wp2_with fail
  refine hi.out.mono ?_
  rintro e w' ⟨rfl, rfl⟩
  have hw : wrap64 ((f : Int) + (m : Int)) = ((f + m : Nat) : Int) := wrap_in (by omega) (by omega)
  go_wp2
  have c1 : w.drew.cell? ⟨g, 0, none⟩ = some (.slice (some ⟨q, 0, none⟩) sts.length cap) := h1
  have c2 : w.drew.cell? ⟨q, s * 6 + 4, none⟩ = some (.int .i64 f) := hc4
  have c3 : w.drew.cell? ⟨q, s * 6 + 5, none⟩ = some (.int .i64 m) := hc5
  refine start_ (n := 27) (S := fun w' => w'.cell? ⟨g, 0, none⟩ = some ((.slice (some ⟨q, 0, none⟩) sts.length cap)) ∧ w'.cell? ⟨q, s * 6 + 4, none⟩ = some (.int .i64 f) ∧ w'.cell? ⟨q, s * 6 + 5, none⟩ = some (.int .i64 m)) (ds := []) #[false, false, false, false, false, false, false, false, false, false, false, false, false, false, false, false, false, false, false, false, false, false, false, false, false, false, false] (by kernel_rfl) rfl rfl ⟨c1, c2, c3⟩ (fun hHeld => ?_)
  refine pure_ (i := 0) (N := some 15) (v := ?_) (a' := ?_) #[true, false, false, false, false, false, false, false, false, false, false, false, false, false, false, false, false, false, false, false, false, false, false, false, false, false, false] rfl rfl (by kernel_rfl) (fun _ _ _ h => h) (Or.inl ⟨by rfl, ?_⟩) ?_ ?_
  rotate_left
  · intro w'
    go_simp
    with_reducible rfl
  rotate_left
  · simp only [Act.put, List.setIfInBounds_toArray, List.set_cons_zero, List.set_cons_succ, i64_w, i32_w]
    rfl
  refine pure_ (i := 1) (N := some 16) (v := ?_) (a' := ?_) #[true, true, false, false, false, false, false, false, false, false, false, false, false, false, false, false, false, false, false, false, false, false, false, false, false, false, false] rfl rfl (by kernel_rfl) (fun _ _ _ h => h) (Or.inl ⟨by rfl, ?_⟩) ?_ ?_
  rotate_left
  · intro w'
    go_simp
    with_reducible rfl
  rotate_left
  · simp only [Act.put, List.setIfInBounds_toArray, List.set_cons_zero, List.set_cons_succ, i64_w, i32_w]
    rfl
  refine pure_ (i := 2) (N := some 17) (v := ?_) (a' := ?_) #[true, true, true, false, false, false, false, false, false, false, false, false, false, false, false, false, false, false, false, false, false, false, false, false, false, false, false] rfl rfl (by kernel_rfl) (fun _ _ _ h => h) (Or.inl ⟨by rfl, ?_⟩) ?_ ?_
  rotate_left
  · intro w'
    go_simp
    with_reducible rfl
  rotate_left
  · simp only [Act.put, List.setIfInBounds_toArray, List.set_cons_zero, List.set_cons_succ, i64_w, i32_w]
    rfl
  refine pure_ (i := 4) (N := some 19) (v := ?_) (a' := ?_) #[true, true, true, false, true, false, false, false, false, false, false, false, false, false, false, false, false, false, false, false, false, false, false, false, false, false, false] rfl rfl (by kernel_rfl) (fun _ _ _ h => h) (Or.inl ⟨by rfl, ?_⟩) ?_ ?_
  rotate_left
  · intro w'
    go_simp
    with_reducible rfl
  rotate_left
  · simp only [Act.put, List.setIfInBounds_toArray, List.set_cons_zero, List.set_cons_succ, i64_w, i32_w]
    rfl
  refine pure_ (i := 8) (N := some 23) (v := ?_) (a' := ?_) #[true, true, true, false, true, false, false, false, true, false, false, false, false, false, false, false, false, false, false, false, false, false, false, false, false, false, false] rfl rfl (by kernel_rfl) (fun _ _ _ h => h) (Or.inl ⟨by rfl, ?_⟩) ?_ ?_
  rotate_left
  · intro w'
    go_simp
    with_reducible rfl
  rotate_left
  · simp only [Act.put, List.setIfInBounds_toArray, List.set_cons_zero, List.set_cons_succ, i64_w, i32_w]
    rfl
  refine pure_ (i := 9) (N := some 24) (v := ?_) (a' := ?_) #[true, true, true, false, true, false, false, false, true, true, false, false, false, false, false, false, false, false, false, false, false, false, false, false, false, false, false] rfl rfl (by kernel_rfl) (fun _ _ _ h => h) (Or.inl ⟨by rfl, ?_⟩) ?_ ?_
  rotate_left
  · intro w'
    go_simp
    with_reducible rfl
  rotate_left
  · simp only [Act.put, List.setIfInBounds_toArray, List.set_cons_zero, List.set_cons_succ, i64_w, i32_w]
    rfl
  refine pure_ (i := 10) (N := some 25) (v := ?_) (a' := ?_) #[true, true, true, false, true, false, false, false, true, true, true, false, false, false, false, false, false, false, false, false, false, false, false, false, false, false, false] rfl rfl (by kernel_rfl) (fun _ _ _ h => h) (Or.inl ⟨by rfl, ?_⟩) ?_ ?_
  rotate_left
  · intro w'
    go_simp
    with_reducible rfl
  rotate_left
  · simp only [Act.put, List.setIfInBounds_toArray, List.set_cons_zero, List.set_cons_succ, i64_w, i32_w]
    rfl
  refine pure_ (i := 12) (N := some 27) (v := ?_) (a' := ?_) #[true, true, true, false, true, false, false, false, true, true, true, false, true, false, false, false, false, false, false, false, false, false, false, false, false, false, false] rfl rfl (by kernel_rfl) (fun _ _ _ h => h) (Or.inl ⟨by rfl, ?_⟩) ?_ ?_
  rotate_left
  · intro w'
    go_simp
    with_reducible rfl
  rotate_left
  · simp only [Act.put, List.setIfInBounds_toArray, List.set_cons_zero, List.set_cons_succ, i64_w, i32_w]
    rfl
  refine pure_ (i := 16) (N := some 31) (v := ?_) (a' := ?_) #[true, true, true, false, true, false, false, false, true, true, true, false, true, false, false, false, true, false, false, false, false, false, false, false, false, false, false] rfl rfl (by kernel_rfl) (fun _ _ _ h => h) (Or.inl ⟨by rfl, ?_⟩) ?_ ?_
  rotate_left
  · intro w'
    go_simp
    with_reducible rfl
  rotate_left
  · simp only [Act.put, List.setIfInBounds_toArray, List.set_cons_zero, List.set_cons_succ, i64_w, i32_w]
    rfl
  refine pure_ (i := 17) (N := some 32) (v := ?_) (a' := ?_) #[true, true, true, false, true, false, false, false, true, true, true, false, true, false, false, false, true, true, false, false, false, false, false, false, false, false, false] rfl rfl (by kernel_rfl) (fun _ _ _ h => h) (Or.inl ⟨by rfl, ?_⟩) ?_ ?_
  rotate_left
  · intro w'
    go_simp
    with_reducible rfl
  rotate_left
  · simp only [Act.put, List.setIfInBounds_toArray, List.set_cons_zero, List.set_cons_succ, i64_w, i32_w]
    rfl
  refine pure_ (i := 18) (N := some 33) (v := ?_) (a' := ?_) #[true, true, true, false, true, false, false, false, true, true, true, false, true, false, false, false, true, true, true, false, false, false, false, false, false, false, false] rfl rfl (by kernel_rfl) (fun _ _ _ h => h) (Or.inl ⟨by rfl, ?_⟩) ?_ ?_
  rotate_left
  · intro w'
    go_simp
    with_reducible rfl
  rotate_left
  · simp only [Act.put, List.setIfInBounds_toArray, List.set_cons_zero, List.set_cons_succ, i64_w, i32_w]
    rfl
  refine pure_ (i := 20) (N := some 35) (v := ?_) (a' := ?_) #[true, true, true, false, true, false, false, false, true, true, true, false, true, false, false, false, true, true, true, false, true, false, false, false, false, false, false] rfl rfl (by kernel_rfl) (fun _ _ _ h => h) (Or.inl ⟨by rfl, ?_⟩) ?_ ?_
  rotate_left
  · intro w'
    go_simp
    with_reducible rfl
  rotate_left
  · simp only [Act.put, List.setIfInBounds_toArray, List.set_cons_zero, List.set_cons_succ, i64_w, i32_w]
    rfl
  refine take_ (i := 3) (N := some 18) (v := ?_) (a' := ?_) #[true, true, true, true, true, false, false, false, true, true, true, false, true, false, false, false, true, true, true, false, true, false, false, false, false, false, false] rfl rfl (by kernel_rfl) (fun _ _ _ h => h) (Or.inl ⟨by rfl, ?_⟩) hHeld ?_ ?_
  rotate_left
  · rintro w' ⟨s0, s1, s2⟩
    go_simp
    with_reducible rfl
  rotate_left
  · simp only [Act.put, List.setIfInBounds_toArray, List.set_cons_zero, List.set_cons_succ, i64_w, i32_w]
    rfl
  refine pure_ (i := 5) (N := some 20) (v := ?_) (a' := ?_) #[true, true, true, true, true, true, false, false, true, true, true, false, true, false, false, false, true, true, true, false, true, false, false, false, false, false, false] rfl rfl (by kernel_rfl) (fun _ _ _ h => h) (Or.inl ⟨by rfl, ?_⟩) ?_ ?_
  rotate_left
  · intro w'
    go_simp
    with_reducible rfl
  rotate_left
  · simp only [Act.put, List.setIfInBounds_toArray, List.set_cons_zero, List.set_cons_succ, i64_w, i32_w]
    rfl
  refine pure_ (i := 6) (N := some 21) (v := ?_) (a' := ?_) #[true, true, true, true, true, true, true, false, true, true, true, false, true, false, false, false, true, true, true, false, true, false, false, false, false, false, false] rfl rfl (by kernel_rfl) (fun _ _ _ h => h) (Or.inl ⟨by rfl, ?_⟩) ?_ ?_
  rotate_left
  · intro w'
    go_simp
    with_reducible rfl
  rotate_left
  · simp only [Act.put, List.setIfInBounds_toArray, List.set_cons_zero, List.set_cons_succ, i64_w, i32_w]
    rfl
  refine take_ (i := 7) (N := some 22) (v := ?_) (a' := ?_) #[true, true, true, true, true, true, true, true, true, true, true, false, true, false, false, false, true, true, true, false, true, false, false, false, false, false, false] rfl rfl (by kernel_rfl) (fun _ _ _ h => h) (Or.inl ⟨by rfl, ?_⟩) hHeld ?_ ?_
  rotate_left
  · rintro w' ⟨s0, s1, s2⟩
    go_simp
    with_reducible rfl
  rotate_left
  · simp only [Act.put, List.setIfInBounds_toArray, List.set_cons_zero, List.set_cons_succ, i64_w, i32_w]
    rfl
  refine pure_ (i := 25) (N := some 8) (v := ?_) (a' := ?_) #[true, true, true, true, true, true, true, true, true, true, true, false, true, false, false, false, true, true, true, false, true, false, false, false, false, true, false] rfl rfl (by kernel_rfl) (fun _ _ _ h => h) (Or.inl ⟨by rfl, ?_⟩) ?_ ?_
  rotate_left
  · intro w'
    go_simp
    with_reducible rfl
  rotate_left
  · simp only [Act.put, List.setIfInBounds_toArray, List.set_cons_zero, List.set_cons_succ, i64_w, i32_w]
    rfl
  refine take_ (i := 11) (N := some 26) (v := ?_) (a' := ?_) #[true, true, true, true, true, true, true, true, true, true, true, true, true, false, false, false, true, true, true, false, true, false, false, false, false, true, false] rfl rfl (by kernel_rfl) (fun _ _ _ h => h) (Or.inl ⟨by rfl, ?_⟩) hHeld ?_ ?_
  rotate_left
  · rintro w' ⟨s0, s1, s2⟩
    go_simp
    with_reducible rfl
  rotate_left
  · simp only [Act.put, List.setIfInBounds_toArray, List.set_cons_zero, List.set_cons_succ, i64_w, i32_w]
    rfl
  refine pure_ (i := 13) (N := some 28) (v := ?_) (a' := ?_) #[true, true, true, true, true, true, true, true, true, true, true, true, true, true, false, false, true, true, true, false, true, false, false, false, false, true, false] rfl rfl (by kernel_rfl) (fun _ _ _ h => h) (Or.inl ⟨by rfl, ?_⟩) ?_ ?_
  rotate_left
  · intro w'
    go_simp
    with_reducible rfl
  rotate_left
  · simp only [Act.put, List.setIfInBounds_toArray, List.set_cons_zero, List.set_cons_succ, i64_w, i32_w]
    rfl
  refine pure_ (i := 14) (N := some 29) (v := ?_) (a' := ?_) #[true, true, true, true, true, true, true, true, true, true, true, true, true, true, true, false, true, true, true, false, true, false, false, false, false, true, false] rfl rfl (by kernel_rfl) (fun _ _ _ h => h) (Or.inl ⟨by rfl, ?_⟩) ?_ ?_
  rotate_left
  · intro w'
    go_simp
    with_reducible rfl
  rotate_left
  · simp only [Act.put, List.setIfInBounds_toArray, List.set_cons_zero, List.set_cons_succ, i64_w, i32_w]
    rfl
  refine take_ (i := 15) (N := some 30) (v := ?_) (a' := ?_) #[true, true, true, true, true, true, true, true, true, true, true, true, true, true, true, true, true, true, true, false, true, false, false, false, false, true, false] rfl rfl (by kernel_rfl) (fun _ _ _ h => h) (Or.inl ⟨by rfl, ?_⟩) hHeld ?_ ?_
  rotate_left
  · rintro w' ⟨s0, s1, s2⟩
    go_simp
    with_reducible rfl
  rotate_left
  · simp only [Act.put, List.setIfInBounds_toArray, List.set_cons_zero, List.set_cons_succ, i64_w, i32_w]
    rfl
  refine take_ (i := 19) (N := some 34) (v := ?_) (a' := ?_) #[true, true, true, true, true, true, true, true, true, true, true, true, true, true, true, true, true, true, true, true, true, false, false, false, false, true, false] rfl rfl (by kernel_rfl) (fun _ _ _ h => h) (Or.inl ⟨by rfl, ?_⟩) hHeld ?_ ?_
  rotate_left
  · rintro w' ⟨s0, s1, s2⟩
    go_simp
    with_reducible rfl
  rotate_left
  · simp only [Act.put, List.setIfInBounds_toArray, List.set_cons_zero, List.set_cons_succ, i64_w, i32_w]
    rfl
  refine pure_ (i := 21) (N := some 36) (v := ?_) (a' := ?_) #[true, true, true, true, true, true, true, true, true, true, true, true, true, true, true, true, true, true, true, true, true, true, false, false, false, true, false] rfl rfl (by kernel_rfl) (fun _ _ _ h => h) (Or.inl ⟨by rfl, ?_⟩) ?_ ?_
  rotate_left
  · intro w'
    go_simp
    with_reducible rfl
  rotate_left
  · simp only [Act.put, List.setIfInBounds_toArray, List.set_cons_zero, List.set_cons_succ, i64_w, i32_w]
    rfl
  refine pure_ (i := 22) (N := some 37) (v := ?_) (a' := ?_) #[true, true, true, true, true, true, true, true, true, true, true, true, true, true, true, true, true, true, true, true, true, true, true, false, false, true, false] rfl rfl (by kernel_rfl) (fun _ _ _ h => h) (Or.inl ⟨by rfl, ?_⟩) ?_ ?_
  rotate_left
  · intro w'
    go_simp
    with_reducible rfl
  rotate_left
  · simp only [Act.put, List.setIfInBounds_toArray, List.set_cons_zero, List.set_cons_succ, i64_w, i32_w]
    rfl
  refine take_ (i := 23) (N := some 38) (v := ?_) (a' := ?_) #[true, true, true, true, true, true, true, true, true, true, true, true, true, true, true, true, true, true, true, true, true, true, true, true, false, true, false] rfl rfl (by kernel_rfl) (fun _ _ _ h => h) (Or.inl ⟨by rfl, ?_⟩) hHeld ?_ ?_
  rotate_left
  · rintro w' ⟨s0, s1, s2⟩
    go_simp
    with_reducible rfl
  rotate_left
  · simp only [Act.put, List.setIfInBounds_toArray, List.set_cons_zero, List.set_cons_succ, i64_w, i32_w]
    rfl
  refine pure_ (i := 24) (N := some 39) (v := ?_) (a' := ?_) #[true, true, true, true, true, true, true, true, true, true, true, true, true, true, true, true, true, true, true, true, true, true, true, true, true, true, false] rfl rfl (by kernel_rfl) (fun _ _ _ h => h) (Or.inl ⟨by rfl, ?_⟩) ?_ ?_
  rotate_left
  · intro w'
    go_simp
    with_reducible rfl
  rotate_left
  · simp only [Act.put, List.setIfInBounds_toArray, List.set_cons_zero, List.set_cons_succ, i64_w, i32_w]
    rfl
  refine pure_ (i := 26) (N := some 9) (v := ?_) (a' := ?_) #[true, true, true, true, true, true, true, true, true, true, true, true, true, true, true, true, true, true, true, true, true, true, true, true, true, true, true] rfl rfl (by kernel_rfl) (fun _ _ _ h => h) (Or.inl ⟨by rfl, ?_⟩) ?_ ?_
  rotate_left
  · intro w'
    go_simp
    with_reducible rfl
  rotate_left
  · simp only [Act.put, List.setIfInBounds_toArray, List.set_cons_zero, List.set_cons_succ, i64_w, i32_w]
    rfl
  refine done_ (by kernel_rfl) ?_
  clear c1 c2 c3 hw
  go_wp2
  clear hc4 hc5 x1 x2
  go_loopg [8, 9] (m + 1) (fun gh s8 s9 wx => ∃ lo hi2 n : Nat, s8 = .int .i64 lo ∧ s9 = .int .i64 hi2 ∧ f ≤ lo ∧ lo ≤ hi2 ∧ hi2 ≤ f + m ∧ hi2 - lo < gh ∧ wx = w.drewN n ∧ Aside0 (∀ (k : Nat) (t : TS), f ≤ k → k < f + m → sts[k]? = some t → t.by_ = (c : Int) → lo ≤ k ∧ k < hi2))
  case atStart => exact ⟨f, f + m, _, rfl, by go_num, Nat.le_refl _, by omega, Nat.le_refl _, by omega, rfl, ⟨fun k t a1 a2 _ _ => ⟨a1, a2⟩⟩⟩
  case round =>
    obtain ⟨lo, hi2, n, rfl, rfl, l1, l2, l3, hgh, rfl, hin⟩ := hrel
    by_cases hlt : lo < hi2
    · have d1 : decide ((lo : Int) < hi2) = true := by simpa using hlt
      have d1' : decide (lo < hi2) = true := by simpa using hlt
      obtain ⟨mid, hmid, g1, g2⟩ : ∃ mid : Nat, ((lo : Int) + (hi2 : Int)) / 2 = (mid : Int) ∧ lo ≤ mid ∧ mid < hi2 := ⟨(lo + hi2) / 2, by omega, by omega, by omega⟩
      replace hmid := Lib.hid hmid
      clear hHeld
      go_upto_region 7 with fail
      rw [hmid.out]
      clear hmid d1 d1' hlt
      have hmx : mid < sts.length := by omega
      have htm : sts[mid]? = some sts[mid] := List.getElem?_eq_getElem hmx
      have hcb := h4.out mid hmx 1 (by omega)
      simp only [TS.cells, List.getElem?_cons_succ, List.getElem?_cons_zero] at hcb
      have hlow : Aside0 (∀ (k : Nat) (t : TS), f ≤ k → k < mid → sts[k]? = some t → t.by_ < sts[mid].by_) := ⟨fun k t a1 a2 a3 => hr.out k mid t _ a1 a2 (by omega) a3 htm⟩
      have hhigh : Aside0 (∀ (k : Nat) (t : TS), mid < k → k < f + m → sts[k]? = some t → sts[mid].by_ < t.by_) := ⟨fun k t a1 a2 a3 => hr.out mid k _ t (by omega) a1 a2 htm a3⟩
      have heq : Aside0 (∀ t, sts[mid]? = some t → t.by_ = sts[mid].by_) := ⟨fun t e => by rw [htm] at e; injection e with e; rw [e]⟩
      generalize hbm : sts[mid].by_ = bm at hcb hlow hhigh heq
      replace htm := Aside0.mk htm
      replace hbm := Aside0.mk hbm
      have y1 : ((0 : Int) ≤ (mid : Int)) = True := eq_true (by omega)
      have y2 : ((mid : Int) < (sts.length : Int)) = True := eq_true (by omega)
      by_cases e1 : bm = (c : Int)
      · have b1 : (bm == (c : Int)) = true := by simpa using e1
        replace e1 := Aside0.mk e1
        go_wp2
        go_ret2
        exact ⟨.inl ⟨mid, _, by omega, by omega, htm.out, hbm.out.trans e1.out, rfl⟩, n, rfl⟩
      · have b1 : (bm == (c : Int)) = false := by simpa using e1
        by_cases e2 : bm < (c : Int)
        · have b2 : decide (bm < (c : Int)) = true := by simpa using e2
          replace e1 := Aside0.mk e1
          replace e2 := Aside0.mk e2
          go_wp2
          go_roundg (gk - 1)
          case measure => omega
          case rel =>
            refine ⟨mid + 1, hi2, n, by go_num, rfl, by omega, by omega, l3, by omega, rfl, ⟨fun k t a1 a2 a3 a4 => ?_⟩⟩
            obtain ⟨g3, g4⟩ := hin.out k t a1 a2 a3 a4
            refine ⟨?_, g4⟩
            rcases Nat.lt_trichotomy k mid with h5 | h5 | h5
            · have := hlow.out k t a1 h5 a3
              have := e2.out
              omega
            · subst h5
              have := heq.out t a3
              have := e1.out
              omega
            · omega
        · have b2 : decide (bm < (c : Int)) = false := by simpa using e2
          replace e1 := Aside0.mk e1
          replace e2 := Aside0.mk e2
          go_wp2
          go_roundg (gk - 1)
          case measure => omega
          case rel =>
            refine ⟨lo, mid, n, rfl, by go_num, l1, by omega, by omega, by omega, rfl, ⟨fun k t a1 a2 a3 a4 => ?_⟩⟩
            obtain ⟨g3, g4⟩ := hin.out k t a1 a2 a3 a4
            refine ⟨g3, ?_⟩
            rcases Nat.lt_trichotomy k mid with h5 | h5 | h5
            · exact h5
            · subst h5
              have := heq.out t a3
              have := e1.out
              omega
            · have := hhigh.out k t h5 a2 a3
              have := e2.out
              omega
    · have d1 : decide ((lo : Int) < hi2) = false := by simpa using hlt
      have d1' : decide (lo < hi2) = false := by simpa using hlt
      have hend : Aside0 (∀ (k : Nat) (t : TS), f ≤ k → k < f + m → sts[k]? = some t → t.by_ ≠ (c : Int)) := ⟨fun k t a1 a2 a3 a4 => by have := hin.out k t a1 a2 a3 a4; omega⟩
      clear hlt
      go_wp2
      go_ret2
      exact ⟨.inr ⟨hend.out, rfl⟩, n, rfl⟩
end Go.Proofs.Ythgjckibnojnpaa
namespace Go.Proofs.Ythgjckibnojnpaa
open Go.RowKit Go.Proofs.YthgjckibnojnpaaW.PrintWords Go.Proofs.YthgjckibnojnpaaW.PrintLast Pl

namespace Pl
def byt (l : List UInt8) : List Int := l.map fun b => (b.toNat : Int)
theorem strOf_byt (p : ByteArray) : strOfNums (byt (tx p)) = p := by
  apply tx_inj
  show (strOfNums (byt (tx p))).data.toList = _
  unfold strOfNums byt
  simp [List.map_map, Function.comp_def]
theorem GoodT.small {xs S : List ByteArray} {sts : List TS} (T : GoodT xs S sts) : ∀ (s : Nat) (p : ByteArray), S[s]? = some p → p.size ≤ s := by
  intro s
  induction s using Nat.strongRecOn with
  | _ s ih =>
    intro p hp
    rcases Nat.eq_zero_or_pos s with rfl | h0
    · rw [T.root] at hp
      injection hp with hp
      rw [← hp]
      exact Nat.le_refl _
    · have hs := (List.getElem?_eq_some_iff.1 hp).1
      obtain ⟨a, q, b, u1, u2, u3, u4, u5⟩ := T.up s _ p h0 (List.getElem?_eq_getElem (by rw [T.len]; exact hs)) hp
      have := ih a u1 q u3
      have hl := congrArg List.length u4
      rw [List.length_append, tx_length, tx_length, List.length_singleton] at hl
      omega
end Pl

theorem made_u8 (w : World) (m : Nat) (hm : m ≤ 140737488355328) : ∃ w1, (Instr.makeSlice 66 (.int .i64 (m : Int)) (.int .i64 (m : Int))).run Try.prog w = .ok (.slice (some ⟨w.heap.size, 0, none⟩) m m) w1 ∧
    w1.ownsRow w.heap.size 5 1 (.slice (some ⟨w.heap.size, 0, none⟩) m m) m (nums .u8 (List.replicate m 0)) ∧ Below w.heap.size w w1 :=
  ⟨_, print_make (P := Try.prog) 66 5 .u8 1 Try.underlying66 PA.info5 (by omega) m (by omega) w, own_made w w.heap.size 5 .u8 m (Nat.le_refl _) (by omega), (Below.refl _ _).alloc (Nat.le_refl _) _⟩
set_option maxHeartbeats 1000000 in
set_option maxRecDepth 20000 in
theorem triePathNo (p : Option Addr) (N : Nat) (s : Int) (hs : ¬ (0 ≤ s ∧ s < N)) (w : World) (hL : Calls Try.prog 44 #[.pointer p] w fun e w' => e = .returned (.int .i64 N) ∧ w = w') :
    Calls Try.prog 49 #[.pointer p, .int .i64 s] w fun e w' => e = .returned (.string ByteArray.empty) ∧ Below w.heap.size w w' := by
  have hd := trieDepthNo p N s hs w hL
  obtain ⟨w1, hmk, how, hB⟩ := made_u8 w 0 (by omega)
  have hcv := own_string (P := Try.prog) (dst := 9) Try.underlying66 Try.underlying5 Try.underlying9 how
  rw [show strOfNums (List.replicate 0 (0 : Int)) = ByteArray.empty from rfl] at hcv
  replace hmk : (Instr.makeSlice 66 (.int .i64 0) (.int .i64 0)).run Try.prog w = .ok (.slice (some ⟨w.heap.size, 0, none⟩) 0 0) w1 := hmk
  replace hd := Aside0.mk hd
  replace hB := Aside0.mk hB
  clear hL hs how
  go_enter Try.func49, Try.ntmps49
  go_wp2_with fail
  refine hd.out.mono ?_
  rintro e w' ⟨rfl, rfl⟩
  go_wp2
  go_loopg [6] 1 (fun gh s6 wx => s6 = .int .i64 (-1) ∧ wx = w1)
  case atStart => exact ⟨rfl, rfl⟩
  case round =>
    obtain ⟨rfl, rfl⟩ := hrel
    go_wp2
    go_ret
    exact ⟨rfl, hB.out⟩

set_option maxHeartbeats 1000000 in
set_option maxRecDepth 20000 in
theorem triePath (g : Nat) (xs S : List ByteArray) (sts : List TS) (T : GoodT xs S sts) (s : Nat) (p : ByteArray) (hp : S[s]? = some p) (w : World) (h : TrieAt w g sts) :
    Calls Try.prog 49 #[.pointer (some ⟨g, 0, none⟩), .int .i64 s] w fun e w' => e = .returned (.string p) ∧ Below w.heap.size w w' := by
  have hs : s < sts.length := by rw [T.len]; exact (List.getElem?_eq_some_iff.1 hp).1
  have hlen := h.len
  have hsm := T.small s p hp
  have hd := trieDepth g sts s hs w h
  rw [T.depth s _ p (List.getElem?_eq_getElem hs) hp] at hd
  obtain ⟨w1, hmk, how, hB⟩ := made_u8 w p.size (by omega)
  generalize hN : p.size = N at hmk how hd hsm
  replace hd := Aside0.mk hd
  replace hB := Aside0.mk hB
  replace how := Aside0.mk how
  replace h := Aside0.mk h
  replace T := Aside0.mk T
  replace hp := Aside0.mk hp
  replace hN := Lib.hid hN
  have hN2 : N ≤ 16777217 := by omega
  clear hs
  go_enter Try.func49, Try.ntmps49
  go_wp2_with fail
  refine hd.out.mono ?_
  rintro e w' ⟨rfl, rfl⟩
  go_wp2
  clear hmk
  go_loopg [1, 6] N (fun n s1 s6 wx => ∃ (sc : Nat) (i : Int) (pc : ByteArray) (L : List Int), s1 = .int .i64 sc ∧ s6 = .int .i64 i ∧ i = (n : Int) - 1 ∧ n ≤ N ∧ Aside0 (S[sc]? = some pc ∧ tx pc = (tx p).take n ∧ L.length = N ∧ L.drop n = (byt (tx p)).drop n ∧
    wx.ownsRow w.heap.size 5 1 (.slice (some ⟨w.heap.size, 0, none⟩) N N) N (nums .u8 L) ∧ Below w.heap.size w wx))
  case atStart =>
    refine ⟨s, _, p, List.replicate N 0, rfl, by go_num, rfl, Nat.le_refl _, ⟨hp.out, ?_, by simp, ?_, how.out, hB.out⟩⟩
    · rw [List.take_of_length_le (by rw [tx_length, hN.out]; exact Nat.le_refl _)]
    · rw [List.drop_of_length_le (by rw [List.length_replicate]; exact Nat.le_refl _), List.drop_of_length_le (by simp only [byt, List.length_map, tx_length, hN.out]; exact Nat.le_refl _)]
  case round =>
    clear how hB hd
    obtain ⟨sc, i, pc, L, rfl, rfl, hi, hn, hI⟩ := hrel
    rename World => W2
    cases gk with
    | zero =>
      obtain rfl : i = -1 := by omega
      have hcv := own_string (P := Try.prog) (dst := 9) Try.underlying66 Try.underlying5 Try.underlying9 hI.out.2.2.2.2.1
      have hL : L = byt (tx p) := by have := hI.out.2.2.2.1; rwa [List.drop_zero, List.drop_zero] at this
      rw [hL, strOf_byt] at hcv
      clear hL hi
      go_wp2
      go_ret
      exact ⟨rfl, hI.out.2.2.2.2.2⟩
    | succ n =>
      obtain rfl : i = (n : Int) := by omega
      obtain ⟨hpc, htx, hL1, hL2, hrow, hbel⟩ := hI.out
      clear hI
      have hscl := (List.getElem?_eq_some_iff.1 hpc).1
      have hpl : pc.size = n + 1 := by rw [← tx_length, htx, List.length_take, tx_length, hN.out]; omega
      have hsc0 : 0 < sc := by
        rcases Nat.eq_zero_or_pos sc with rfl | h0
        · rw [T.out.root] at hpc
          injection hpc with hpc
          rw [← hpc] at hpl
          cases hpl
        · exact h0
      have hsc : sc < sts.length := by rw [T.out.len]; exact hscl
      have hab := trieAbove g sts sc hsc0 hsc W2 (h.out.below hbel)
      obtain ⟨a, q, b, u1, u2, u3, u4, u5⟩ := T.out.up sc _ pc hsc0 (List.getElem?_eq_getElem hsc) hpc
      rw [u2, u5] at hab
      replace hab := Aside0.mk hab
      rw [htx] at u4
      have hnp : n < p.size := by rw [hN.out]; omega
      rw [take_snoc hnp] at u4
      obtain ⟨v1, v2⟩ := List.append_inj' u4 rfl
      injection v2 with v2
      clear u2 u4 u5 hsc0 hscl hsc htx hpl
      have hst := own_store hrow (n : Int) (b.toNat : Int)
      rw [Int.toNat_natCast] at hst
      have hbn : b.toNat < 256 := UInt8.toNat_lt b
      have hdr : (L.set n (b.toNat : Int)).drop n = (byt (tx p)).drop n := by
        have e1 : n < (L.set n (b.toNat : Int)).length := by rw [List.length_set]; omega
        have e2 : n < (byt (tx p)).length := by simp only [byt, List.length_map, tx_length]; exact hnp
        rw [List.drop_eq_getElem_cons e1, List.drop_eq_getElem_cons e2, List.getElem_set_self, List.drop_set_of_lt (by omega), hL2]
        congr 1
        simp only [byt, List.getElem_map]
        rw [← v2, List.getD_eq_getElem?_getD, List.getElem?_eq_getElem (by rw [tx_length]; exact hnp)]
        rfl
      obtain ⟨f1, f2⟩ : W2.cell? ⟨w.heap.size, n, none⟩ = some (.int .u8 (rd L n)) ∧ W2.frozen? ⟨w.heap.size, n, none⟩ = false := by
        have := own_at hrow (n : Int) (by omega) (by omega)
        rwa [Int.toNat_natCast] at this
      have hI2 : Aside0 (S[a]? = some q ∧ tx q = (tx p).take n ∧ (L.set n (b.toNat : Int)).length = N ∧ (L.set n (b.toNat : Int)).drop n = (byt (tx p)).drop n ∧
          (W2.setCell ⟨w.heap.size, n, none⟩ (.int .u8 (b.toNat : Int))).ownsRow w.heap.size 5 1 (.slice (some ⟨w.heap.size, 0, none⟩) N N) N (nums .u8 (L.set n (b.toNat : Int))) ∧ Below w.heap.size w (W2.setCell ⟨w.heap.size, n, none⟩ (.int .u8 (b.toNat : Int)))) :=
        ⟨⟨u3, v1.symm, by rw [List.length_set]; exact hL1, hdr, hst.1, hbel.setCell (p := ⟨w.heap.size, n, none⟩) (Nat.le_refl _) _⟩⟩
      generalize (b.toNat : Int) = bI at hI2 hab
      have x1 : ((0 : Int) ≤ (n : Int)) = True := eq_true (by omega)
      have x2 : ((n : Int) < (N : Int)) = True := eq_true (by omega)
      have hb3 := Aside0.mk hbel
      clear hst hdr v1 v2 hL1 hL2 hrow hbel hpc u3 u1 hnp hi
      go_wp2_with fail
      refine hab.out.mono ?_
      rintro e w' ⟨rfl, nn, rfl⟩
      go_wp2
      go_roundg n
      case measure => omega
      case rel =>
        obtain ⟨r1, r2, r3, r4, r5, r6⟩ := hI2.out
        exact ⟨a, (n : Int) - 1, q, _, rfl, rfl, rfl, by omega, ⟨r1, r2, r3, r4, r5, (below_drewN' hb3.out nn).setCell (p := ⟨w.heap.size, n, none⟩) (Nat.le_refl _) _⟩⟩
end Go.Proofs.Ythgjckibnojnpaa
