/- The walk of trie's part: one state is worked off. trie.New is walked: the trie of a set. -/
import Derived.Test.YthgjckibnojnpaaTrieM
import Derived.WalkMore
import Derived.BigQuiet
import Derived.Deep.LoopGhost
import Derived.Deep.DeepCutAuto
import Derived.Test.YthgjckibnojnpaaSetM
set_option linter.unusedVariables false
set_option linter.unusedSimpArgs false
namespace Go.Proofs.Ythgjckibnojnpaa
open Go.RowKit Go.Proofs.YthgjckibnojnpaaW.PrintWords Go.Proofs.YthgjckibnojnpaaW.PrintLast Pl

set_option maxHeartbeats 4000000 in
set_option maxRecDepth 20000 in
theorem triePart (w0 : World) (A : Option Addr) (c : Nat) (xs : List ByteArray) (hl : Kd.C Kd.string w0 A xs.length xs) (hA : Asc xs) (hx : xs.length ≤ 65535) (hs : ∀ s ∈ xs, s.size ≤ 65535) (ht : tot xs ≤ 16777216)
    (w : World) (hB : Below w0.heap.size w0 w) (g : Nat) (v : Value) (sts : List TS) (k : Nat) (j : TJ) (J : List TJ) (hO : Outer xs sts k (j :: J)) (hM : TMut w w0.heap.size g v sts) (wv : Value) (hQ : KJ.Q 126 w w0.heap.size anyB wv (j :: J)) :
    Calls Try.prog 93 #[.pointer (some ⟨g, 0, none⟩), .slice A xs.length c, wv] w fun e w' => ∃ wv' v' sts' J', e = .returned wv' ∧ Below w0.heap.size w0 w' ∧ TMut w' w0.heap.size g v' sts' ∧ Outer xs sts' (k + 1) J' ∧ KJ.Q 126 w' w0.heap.size anyB wv' (j :: J') := by
  obtain ⟨q0, o0, cap0, rfl, hcap0, hq0, hbq0, hjc⟩ := job_cell hQ
  obtain ⟨hst, hk, hlh, hhx⟩ := outer_head hO
  have hcnt := outer_cnt hO
  obtain ⟨n, tk, htk, hdep, hmany, hid, hhit, hmiss⟩ := outer_open hA hO
  obtain ⟨st, lo, hi⟩ := j
  dsimp only at hst hlh hhx hhit hmiss
  subst hst
  have j0 := hjc 0 (by omega)
  have j1 := hjc 1 (by omega)
  have j2 := hjc 2 (by omega)
  simp only [TJ.cells, List.getElem?_cons_succ, List.getElem?_cons_zero, Nat.add_zero] at j0 j1 j2
  clear hjc
  replace hO := Aside0.mk hO
  replace hM := Aside0.mk hM
  replace hQ := Aside0.mk hQ
  replace hB := Aside0.mk hB
  replace hl := Aside0.mk hl
  replace hhit := Aside0.mk hhit
  replace hmiss := Aside0.mk hmiss
  replace hs := Aside0.mk hs
  replace hA := Aside0.mk hA
  replace hdep := Aside0.mk hdep
  replace hmany := Aside0.mk hmany
  replace hid := Aside0.mk hid
  replace htk := Aside0.mk htk
  have hu126 := Try.underlying126
  go_enter Try.func93, Try.ntmps93
  go_wp2
  go_step3
  go_wp2
  have hal : Below w.heap.size w (w.alloc (.cells #[.int .i64 k, .int .i64 lo, .int .i64 hi] 126)) := (Below.refl _ _).alloc (Nat.le_refl _) _
  have hP : PartW w0 (w.alloc (.cells #[.int .i64 k, .int .i64 lo, .int .i64 hi] 126)) g w.heap.size k lo hi v sts (.slice (some ⟨q0, o0, none⟩) (J.length + 1) cap0) (⟨k, lo, hi⟩ :: J) :=
    ⟨below_then hB.out hB.out.size hal, hM.out.below hal, Blk.new w _ _, hB.out.size, Kd.Q_mono (Kd.Q_elderB (Kd.Q_below hQ.out (Below.refl _ _)) w.heap.size (Nat.le_refl _) |> fun h => Kd.Q_below h hal) (fun _ h => h.2)⟩
  generalize w.alloc (.cells #[.int .i64 k, .int .i64 lo, .int .i64 hi] 126) = W at hP ⊢
  clear hal hB hM hQ j0 j1 j2 hq0 hO
  generalize w.heap.size = b at hP ⊢
  obtain ⟨q, cap, rfl, hncap, _, _, hqg⟩ := hP.trie.form (by omega)
  obtain ⟨c1, c2, c3, c4, c5⟩ := hP.cells
  have c6 := (hP.trie.cell htk.out 2 (by omega)).1
  simp only [TS.cells, List.getElem?_cons_succ, List.getElem?_cons_zero, hdep.out] at c6
  have x1 : ((0 : Int) ≤ (k : Int)) = True := eq_true (by omega)
  have x2 : ((k : Int) < (sts.length : Int)) = True := eq_true (by omega)
  replace hP := Aside0.mk hP
  go_quiet (fail)
  have hP2 := hP.out.drewN nq
  clear c1 c2 c3 c4 c5 c6 hP
  generalize W.drewN nq = W1 at hP2 ⊢
  obtain ⟨c1, c2, c3, c4, c5⟩ := hP2.cells
  replace hP2 := Aside0.mk hP2
  go_upto_region 4 with fail
  obtain ⟨hit, hhitE⟩ : ∃ hit : Bool, hit = decide (lo < hi ∧ ∃ h : lo < xs.length, xs[lo].size = n) := ⟨_, rfl⟩
  go_cut [38] (fun s38 wx => s38 = .bool hit ∧ wx = W1)
  case first =>
    by_cases h1 : lo < hi
    · have d1 : decide ((lo : Int) < hi) = true := by simpa using h1
      have d1' : decide (lo < hi) = true := by simpa using h1
      have hlx : lo < xs.length := by omega
      obtain ⟨ad, e, hcell0⟩ := Kd.at_string (Kd.C_below hl.out hP2.out.below) (lo : Int) (by omega) (by omega)
      subst e
      have hcell : W1.cell? (ad.add lo) = some (.string xs[lo]) := by
        simpa [rdOf, List.getD_eq_getElem?_getD, List.getElem?_eq_getElem hlx] using hcell0
      clear hcell0
      have x3 : ((0 : Int) ≤ (lo : Int)) = True := eq_true (by omega)
      have x4 : ((lo : Int) < (xs.length : Int)) = True := eq_true (by omega)
      by_cases h2 : xs[lo].size = n
      · have d2 : (((xs[lo].size : Nat) : Int) == (n : Int)) = true := by simp; omega
        have d2' : (xs[lo].size == n) = true := by simpa using h2
        have d3 : hit = true := by rw [hhitE]; simpa [h1, hlx] using h2
        clear hhitE h1 h2
        subst d3
        go_wp2
        go_meet
        exact ⟨rfl, rfl⟩
      · have d2 : (((xs[lo].size : Nat) : Int) == (n : Int)) = false := by simp; omega
        have d2' : (xs[lo].size == n) = false := by simpa using h2
        have d3 : hit = false := by rw [hhitE]; simpa [h1, hlx] using h2
        clear hhitE h1 h2
        subst d3
        go_wp2
        go_meet
        exact ⟨rfl, rfl⟩
    · have d1 : decide ((lo : Int) < hi) = false := by simpa using h1
      have d1' : decide (lo < hi) = false := by simpa using h1
      have d3 : hit = false := by rw [hhitE]; simp [h1]
      clear hhitE h1
      subst d3
      go_wp2
      go_meet
      exact ⟨rfl, rfl⟩
  case rest =>
    obtain ⟨rfl, rfl⟩ := hcut
    go_upto_if 38 with fail
    go_cut [9] (fun s9 wx => ∃ (pos : Nat) (t2 : TS) (sts2 : List TS), s9 = .int .i64 pos ∧ Aside0 (sts2[k]? = some t2 ∧ sts2.length = sts.length ∧ PartW w0 wx g b k lo hi (.slice (some ⟨q, 0, none⟩) sts.length cap) sts2 (.slice (some ⟨q0, o0, none⟩) (J.length + 1) cap0) (⟨k, lo, hi⟩ :: J) ∧ Inner xs (sts2.set k { t2 with first := sts.length }) k n pos hi J))
    case first =>
      cases hit with
      | false =>
        have hmi := hmiss.out (of_decide_eq_false hhitE.symm)
        clear hhitE
        go_wp2
        go_meet
        exact ⟨lo, tk, sts, rfl, ⟨htk.out, rfl, hP2.out, hmi⟩⟩
      | true =>
        have hhi := hhit.out (of_decide_eq_true hhitE.symm)
        clear hhitE
        replace hhi := Aside0.mk hhi
        go_upto_region 5 with fail
        have hP3 := hP2.out.drew
        clear c1 c2 c3 c4 c5 hP2
        obtain ⟨c1, c2, c3, c4, c5⟩ := hP3.cells
        obtain ⟨c6, c7⟩ := hP3.trie.cell htk.out 3 (by omega)
        simp only [TS.cells, List.getElem?_cons_succ, List.getElem?_cons_zero] at c6
        replace hP3 := Aside0.mk hP3
        refine start_ (n := 10) (S := fun w' => w'.cell? ⟨g, 0, none⟩ = some ((.slice (some ⟨q, 0, none⟩) sts.length cap)) ∧ w'.cell? ⟨b, 0, none⟩ = some (.int .i64 k) ∧ w'.cell? ⟨q, k * 6 + 3, none⟩ = some (.int .i64 tk.id) ∧ w'.frozen? ⟨q, k * 6 + 3, none⟩ = false) (ds := [9]) #[false, false, false, false, false, false, false, false, false, false] (by kernel_rfl) rfl rfl ⟨c1, c3, c6, c7⟩ (fun hHeld => ?_)
        clear c1 c2 c3 c4 c5 c6 c7
        generalize wc.drew = W2 at hP3 hHeld ⊢
        refine pure_ (i := 0) (N := some 39) (v := ?_) (a' := ?_) #[true, false, false, false, false, false, false, false, false, false] rfl rfl (by kernel_rfl) (fun _ _ _ h => h) (Or.inl ⟨by rfl, ?_⟩) ?_ ?_
        rotate_left
        · intro w'
          go_simp
          with_reducible rfl
        rotate_left
        · simp only [Act.put, List.setIfInBounds_toArray, List.set_cons_zero, List.set_cons_succ, i64_w, i32_w]
          rfl
        refine pure_ (i := 1) (N := some 40) (v := ?_) (a' := ?_) #[true, true, false, false, false, false, false, false, false, false] rfl rfl (by kernel_rfl) (fun _ _ _ h => h) (Or.inl ⟨by rfl, ?_⟩) ?_ ?_
        rotate_left
        · intro w'
          go_simp
          with_reducible rfl
        rotate_left
        · simp only [Act.put, List.setIfInBounds_toArray, List.set_cons_zero, List.set_cons_succ, i64_w, i32_w]
          rfl
        refine pure_ (i := 2) (N := some 41) (v := ?_) (a' := ?_) #[true, true, true, false, false, false, false, false, false, false] rfl rfl (by kernel_rfl) (fun _ _ _ h => h) (Or.inl ⟨by rfl, ?_⟩) ?_ ?_
        rotate_left
        · intro w'
          go_simp
          with_reducible rfl
        rotate_left
        · simp only [Act.put, List.setIfInBounds_toArray, List.set_cons_zero, List.set_cons_succ, i64_w, i32_w]
          rfl
        refine pure_ (i := 4) (N := some 43) (v := ?_) (a' := ?_) #[true, true, true, false, true, false, false, false, false, false] rfl rfl (by kernel_rfl) (fun _ _ _ h => h) (Or.inl ⟨by rfl, ?_⟩) ?_ ?_
        rotate_left
        · intro w'
          go_simp
          with_reducible rfl
        rotate_left
        · simp only [Act.put, List.setIfInBounds_toArray, List.set_cons_zero, List.set_cons_succ, i64_w, i32_w]
          rfl
        refine pure_ (i := 6) (N := some 45) (v := ?_) (a' := ?_) #[true, true, true, false, true, false, true, false, false, false] rfl rfl (by kernel_rfl) (fun _ _ _ h => h) (Or.inl ⟨by rfl, ?_⟩) ?_ ?_
        rotate_left
        · intro w'
          go_simp
          with_reducible rfl
        rotate_left
        · simp only [Act.put, List.setIfInBounds_toArray, List.set_cons_zero, List.set_cons_succ, i64_w, i32_w]
          rfl
        refine take_ (i := 3) (N := some 42) (v := ?_) (a' := ?_) #[true, true, true, true, true, false, true, false, false, false] rfl rfl (by kernel_rfl) (fun _ _ _ h => h) (Or.inl ⟨by rfl, ?_⟩) hHeld ?_ ?_
        rotate_left
        · rintro w' ⟨s0, s1, s2, s3⟩
          go_simp
          with_reducible rfl
        rotate_left
        · simp only [Act.put, List.setIfInBounds_toArray, List.set_cons_zero, List.set_cons_succ, i64_w, i32_w]
          rfl
        refine take_ (i := 5) (N := some 44) (v := ?_) (a' := ?_) #[true, true, true, true, true, true, true, false, false, false] rfl rfl (by kernel_rfl) (fun _ _ _ h => h) (Or.inl ⟨by rfl, ?_⟩) hHeld ?_ ?_
        rotate_left
        · rintro w' ⟨s0, s1, s2, s3⟩
          go_simp
          with_reducible rfl
        rotate_left
        · simp only [Act.put, List.setIfInBounds_toArray, List.set_cons_zero, List.set_cons_succ, i64_w, i32_w]
          rfl
        refine pure_ (i := 7) (N := some 46) (v := ?_) (a' := ?_) #[true, true, true, true, true, true, true, true, false, false] rfl rfl (by kernel_rfl) (fun _ _ _ h => h) (Or.inl ⟨by rfl, ?_⟩) ?_ ?_
        rotate_left
        · intro w'
          go_simp
          with_reducible rfl
        rotate_left
        · simp only [Act.put, List.setIfInBounds_toArray, List.set_cons_zero, List.set_cons_succ, i64_w, i32_w]
          rfl
        refine pure_ (i := 8) (N := some 47) (v := ?_) (a' := ?_) #[true, true, true, true, true, true, true, true, true, false] rfl rfl (by kernel_rfl) (fun _ _ _ h => h) (Or.inl ⟨by rfl, ?_⟩) ?_ ?_
        rotate_left
        · intro w'
          go_simp
          with_reducible rfl
        rotate_left
        · simp only [Act.put, List.setIfInBounds_toArray, List.set_cons_zero, List.set_cons_succ, i64_w, i32_w]
          rfl
        refine last_ (i := 9) (N := none) #[true, true, true, true, true, true, true, true, true, true] rfl rfl (by kernel_rfl) (by decide) (fun K hK => ?_)
        refine skip_ (w1 := ?_) (by rfl) rfl ?_ ?_
        rotate_left
        · go_simp
          rfl
        clear hHeld
        refine hK.out _ _ ?_
        clear hK K
        refine done_ (by kernel_rfl) ?_
        have hP4 := hP3.out.store htk.out (t' := { tk with id := lo }) 3 (by omega) (.int .i64 lo) rfl
        replace hP4 := Aside0.mk hP4
        go_wp2
        go_meet
        refine ⟨lo + 1, { tk with id := lo }, sts.set k { tk with id := lo }, by go_num, ⟨⟨?_, ?_, hP4.out, ?_⟩⟩⟩
        · rw [List.getElem?_set_self (by omega)]
        · rw [List.length_set]
        · rw [List.set_set]
          exact hhi.out
    case rest =>
      obtain ⟨pos0, t2, sts2, rfl, hR⟩ := hcut
      clear hhit hmiss htk hid hdep hmany c1 c2 c3 c4 c5 hP2 hhitE
      go_upto_region 7 with fail
      have hP3 := hR.out.2.2.1.drew
      have hI3 := Aside0.mk hR.out.2.2.2
      have hl2 := hR.out.2.1
      have ht2 := Aside0.mk hR.out.1
      clear hR
      obtain ⟨c1, c2, c3, c4, c5⟩ := hP3.cells
      obtain ⟨c6, c7⟩ := hP3.trie.cell ht2.out 4 (by omega)
      simp only [TS.cells, List.getElem?_cons_succ, List.getElem?_cons_zero] at c6
      replace hP3 := Aside0.mk hP3
      refine start_ (n := 14) (S := fun w' => w'.cell? ⟨g, 0, none⟩ = some ((.slice (some ⟨q, 0, none⟩) sts.length cap)) ∧ w'.cell? ⟨b, 0, none⟩ = some (.int .i64 k) ∧ w'.cell? ⟨q, k * 6 + 4, none⟩ = some (.int .i64 t2.first) ∧ w'.frozen? ⟨q, k * 6 + 4, none⟩ = false) (ds := [13]) #[false, false, false, false, false, false, false, false, false, false, false, false, false, false] (by kernel_rfl) rfl rfl ⟨c1, c3, c6, c7⟩ (fun hHeld => ?_)
      clear c1 c2 c3 c4 c5 c6 c7
      generalize wc.drew = W2 at hP3 hHeld ⊢
      refine pure_ (i := 0) (N := some 50) (v := ?_) (a' := ?_) #[true, false, false, false, false, false, false, false, false, false, false, false, false, false] rfl rfl (by kernel_rfl) (fun _ _ _ h => h) (Or.inl ⟨by rfl, ?_⟩) ?_ ?_
      rotate_left
      · intro w'
        go_simp
        with_reducible rfl
      rotate_left
      · simp only [Act.put, List.setIfInBounds_toArray, List.set_cons_zero, List.set_cons_succ, i64_w, i32_w]
        rfl
      refine pure_ (i := 1) (N := some 51) (v := ?_) (a' := ?_) #[true, true, false, false, false, false, false, false, false, false, false, false, false, false] rfl rfl (by kernel_rfl) (fun _ _ _ h => h) (Or.inl ⟨by rfl, ?_⟩) ?_ ?_
      rotate_left
      · intro w'
        go_simp
        with_reducible rfl
      rotate_left
      · simp only [Act.put, List.setIfInBounds_toArray, List.set_cons_zero, List.set_cons_succ, i64_w, i32_w]
        rfl
      refine pure_ (i := 2) (N := some 52) (v := ?_) (a' := ?_) #[true, true, true, false, false, false, false, false, false, false, false, false, false, false] rfl rfl (by kernel_rfl) (fun _ _ _ h => h) (Or.inl ⟨by rfl, ?_⟩) ?_ ?_
      rotate_left
      · intro w'
        go_simp
        with_reducible rfl
      rotate_left
      · simp only [Act.put, List.setIfInBounds_toArray, List.set_cons_zero, List.set_cons_succ, i64_w, i32_w]
        rfl
      refine pure_ (i := 4) (N := some 54) (v := ?_) (a' := ?_) #[true, true, true, false, true, false, false, false, false, false, false, false, false, false] rfl rfl (by kernel_rfl) (fun _ _ _ h => h) (Or.inl ⟨by rfl, ?_⟩) ?_ ?_
      rotate_left
      · intro w'
        go_simp
        with_reducible rfl
      rotate_left
      · simp only [Act.put, List.setIfInBounds_toArray, List.set_cons_zero, List.set_cons_succ, i64_w, i32_w]
        rfl
      refine pure_ (i := 6) (N := some 56) (v := ?_) (a' := ?_) #[true, true, true, false, true, false, true, false, false, false, false, false, false, false] rfl rfl (by kernel_rfl) (fun _ _ _ h => h) (Or.inl ⟨by rfl, ?_⟩) ?_ ?_
      rotate_left
      · intro w'
        go_simp
        with_reducible rfl
      rotate_left
      · simp only [Act.put, List.setIfInBounds_toArray, List.set_cons_zero, List.set_cons_succ, i64_w, i32_w]
        rfl
      refine pure_ (i := 7) (N := some 57) (v := ?_) (a' := ?_) #[true, true, true, false, true, false, true, true, false, false, false, false, false, false] rfl rfl (by kernel_rfl) (fun _ _ _ h => h) (Or.inl ⟨by rfl, ?_⟩) ?_ ?_
      rotate_left
      · intro w'
        go_simp
        with_reducible rfl
      rotate_left
      · simp only [Act.put, List.setIfInBounds_toArray, List.set_cons_zero, List.set_cons_succ, i64_w, i32_w]
        rfl
      refine pure_ (i := 8) (N := some 58) (v := ?_) (a' := ?_) #[true, true, true, false, true, false, true, true, true, false, false, false, false, false] rfl rfl (by kernel_rfl) (fun _ _ _ h => h) (Or.inl ⟨by rfl, ?_⟩) ?_ ?_
      rotate_left
      · intro w'
        go_simp
        with_reducible rfl
      rotate_left
      · simp only [Act.put, List.setIfInBounds_toArray, List.set_cons_zero, List.set_cons_succ, i64_w, i32_w]
        rfl
      refine take_ (i := 3) (N := some 53) (v := ?_) (a' := ?_) #[true, true, true, true, true, false, true, true, true, false, false, false, false, false] rfl rfl (by kernel_rfl) (fun _ _ _ h => h) (Or.inl ⟨by rfl, ?_⟩) hHeld ?_ ?_
      rotate_left
      · rintro w' ⟨s0, s1, s2, s3⟩
        go_simp
        with_reducible rfl
      rotate_left
      · simp only [Act.put, List.setIfInBounds_toArray, List.set_cons_zero, List.set_cons_succ, i64_w, i32_w]
        rfl
      refine take_ (i := 5) (N := some 55) (v := ?_) (a' := ?_) #[true, true, true, true, true, true, true, true, true, false, false, false, false, false] rfl rfl (by kernel_rfl) (fun _ _ _ h => h) (Or.inl ⟨by rfl, ?_⟩) hHeld ?_ ?_
      rotate_left
      · rintro w' ⟨s0, s1, s2, s3⟩
        go_simp
        with_reducible rfl
      rotate_left
      · simp only [Act.put, List.setIfInBounds_toArray, List.set_cons_zero, List.set_cons_succ, i64_w, i32_w]
        rfl
      refine take_ (i := 9) (N := some 59) (v := ?_) (a' := ?_) #[true, true, true, true, true, true, true, true, true, true, false, false, false, false] rfl rfl (by kernel_rfl) (fun _ _ _ h => h) (Or.inl ⟨by rfl, ?_⟩) hHeld ?_ ?_
      rotate_left
      · rintro w' ⟨s0, s1, s2, s3⟩
        go_simp
        with_reducible rfl
      rotate_left
      · simp only [Act.put, List.setIfInBounds_toArray, List.set_cons_zero, List.set_cons_succ, i64_w, i32_w]
        rfl
      refine pure_ (i := 10) (N := some 60) (v := ?_) (a' := ?_) #[true, true, true, true, true, true, true, true, true, true, true, false, false, false] rfl rfl (by kernel_rfl) (fun _ _ _ h => h) (Or.inl ⟨by rfl, ?_⟩) ?_ ?_
      rotate_left
      · intro w'
        go_simp
        with_reducible rfl
      rotate_left
      · simp only [Act.put, List.setIfInBounds_toArray, List.set_cons_zero, List.set_cons_succ, i64_w, i32_w]
        rfl
      refine pure_ (i := 11) (N := some 61) (v := ?_) (a' := ?_) #[true, true, true, true, true, true, true, true, true, true, true, true, false, false] rfl rfl (by kernel_rfl) (fun _ _ _ h => h) (Or.inl ⟨by rfl, ?_⟩) ?_ ?_
      rotate_left
      · intro w'
        go_simp
        with_reducible rfl
      rotate_left
      · simp only [Act.put, List.setIfInBounds_toArray, List.set_cons_zero, List.set_cons_succ, i64_w, i32_w]
        rfl
      refine pure_ (i := 12) (N := some 62) (v := ?_) (a' := ?_) #[true, true, true, true, true, true, true, true, true, true, true, true, true, false] rfl rfl (by kernel_rfl) (fun _ _ _ h => h) (Or.inl ⟨by rfl, ?_⟩) ?_ ?_
      rotate_left
      · intro w'
        go_simp
        with_reducible rfl
      rotate_left
      · simp only [Act.put, List.setIfInBounds_toArray, List.set_cons_zero, List.set_cons_succ, i64_w, i32_w]
        rfl
      refine last_ (i := 13) (N := none) #[true, true, true, true, true, true, true, true, true, true, true, true, true, true] rfl rfl (by kernel_rfl) (by decide) (fun K hK => ?_)
      refine skip_ (w1 := ?_) (by rfl) rfl ?_ ?_
      rotate_left
      · go_simp
        rfl
      clear hHeld
      refine hK.out _ _ ?_
      clear hK K
      refine done_ (by kernel_rfl) ?_
      have hP4 := Aside0.mk (hP3.out.store ht2.out (t' := { t2 with first := sts.length }) 4 (by omega) (.int .i64 sts.length) rfl)
      clear hP3 ht2 hcnt x1 x2
      generalize W2.setCell ⟨q, k * 6 + 4, none⟩ (.int .i64 sts.length) = W3 at hP4 ⊢
      generalize sts2.set k { t2 with first := (sts.length : Int) } = sts3 at hP4 hI3
      go_wp2
      go_step3
      go_wp2
      go_loopg [2, 9] (hi - pos0) (fun gh s2 s9 wx => ∃ (pos : Nat) (v' : Value) (sts' : List TS) (J' : List TJ), s9 = .int .i64 pos ∧ gh + pos = hi ∧ Aside0 (PartW w0 wx g b k lo hi v' sts' s2 (⟨k, lo, hi⟩ :: J')) ∧ Aside0 (Inner xs sts' k n pos hi J'))
      case atStart => exact ⟨pos0, _, _, _, rfl, by have := inner_cnt hI3.out; omega, hP4, hI3⟩
      case round =>
        clear hP4 hI3 hl2
        rename World => W4
        obtain ⟨pos, v', sts', J', rfl, hgh, hP, hI⟩ := hrel
        generalize u2 = wv' at hP ⊢
        obtain ⟨i1, i2, i3, i4, i5⟩ := inner_cnt hI.out
        obtain ⟨ti, mi, hti, hmi, hmi2⟩ := inner_at hI.out
        have hk3 : k < sts'.length := by omega
        obtain ⟨q3, cap3, rfl, hn3, _, _, hqg3⟩ := hP.out.trie.form (by omega)
        obtain ⟨c1, c2, c3, c4, c5⟩ := hP.out.cells
        replace hti := Aside0.mk hti
        replace hmi := Aside0.mk hmi
        replace i5 := Aside0.mk i5
        by_cases hlt : pos < hi
        · have hpx : pos < xs.length := by omega
          have hsz := i5.out pos hpx (Nat.le_refl _) hlt
          have hsz2 := hs.out xs[pos] (List.getElem_mem hpx)
          obtain ⟨ad, e, hcell0⟩ := Kd.at_string (Kd.C_below hl.out hP.out.below) (pos : Int) (by omega) (by omega)
          subst e
          have hcell : W4.cell? (ad.add pos) = some (.string xs[pos]) := by
            simpa [rdOf, List.getD_eq_getElem?_getD, List.getElem?_eq_getElem hpx] using hcell0
          clear hcell0
          have hbat : bat xs[pos] n = (((xs[pos])[n]'hsz).toNat : Int) := bat_at _ _ hsz
          have hsame0 : Aside0 (∀ i (hx : i < xs.length), pos ≤ i → i < pos + 1 → bat xs[i] n = bat xs[pos] n) := by
            refine ⟨fun i hx h1 h2 => ?_⟩
            obtain rfl : i = pos := by omega
            rfl
          generalize xs[pos] = s at hcell hsz hsz2 hbat hsame0
          have d1 : decide ((pos : Int) < hi) = true := by simpa using hlt
          have d1' : decide (pos < hi) = true := by simpa using hlt
          have x3 : ((0 : Int) ≤ (pos : Int)) = True := eq_true (by omega)
          have x4 : ((pos : Int) < (xs.length : Int)) = True := eq_true (by omega)
          have x5 : ((n : Int) < (s.size : Int)) = True := eq_true (by omega)
          have x6 : ((0 : Int) ≤ (n : Int)) = True := eq_true (by omega)
          replace hbat := Lib.hid hbat
          go_wp2
          replace hbat := hbat.out
          have hcu : 0 ≤ ((s[n]'hsz).toNat : Int) ∧ ((s[n]'hsz).toNat : Int) < 256 := ⟨by omega, by have := UInt8.toNat_lt (s[n]'hsz); omega⟩
          generalize ((s[n]'hsz).toNat : Int) = cI at hbat hcu ⊢
          rw [hbat] at hsame0
          clear hcell x3 x4 hbat d1 d1'
          go_loopg [2, 9, 11] (hi - (pos + 1)) (fun g2 s2 s9 s11 wx => ∃ nx : Nat, s2 = wv' ∧ s9 = .int .i64 pos ∧ s11 = .int .i64 nx ∧ g2 + nx = hi ∧ pos < nx ∧ wx = W4 ∧ Aside0 (∀ i (hx : i < xs.length), pos ≤ i → i < nx → bat xs[i] n = cI))
          case atStart => exact ⟨pos + 1, rfl, rfl, by go_num, by omega, by omega, rfl, hsame0⟩
          case round =>
            clear hsame0
            obtain ⟨nx, rfl, rfl, rfl, hg2, hpt, rfl, hall⟩ := hrel
            rename World => W5
            go_upto_region 12 with fail
            obtain ⟨same, hsm⟩ : ∃ same : Bool, same = decide (nx < hi ∧ ∃ h : nx < xs.length, bat xs[nx] n = cI) := ⟨_, rfl⟩
            go_cut [90] (fun s90 wx => s90 = .bool same ∧ wx = W5)
            case first =>
              by_cases h1 : nx < hi
              · have e1 : decide ((nx : Int) < hi) = true := by simpa using h1
                have e1' : decide (nx < hi) = true := by simpa using h1
                have hnx : nx < xs.length := by omega
                obtain ⟨ad', e, hcell0⟩ := Kd.at_string (Kd.C_below hl.out hP.out.below) (nx : Int) (by omega) (by omega)
                injection e with e
                subst e
                have hcell : W5.cell? (ad.add nx) = some (.string xs[nx]) := by
                  simpa [rdOf, List.getD_eq_getElem?_getD, List.getElem?_eq_getElem hnx] using hcell0
                clear hcell0
                have hsn := i5.out nx hnx (by omega) h1
                have hsn2 := hs.out xs[nx] (List.getElem_mem hnx)
                have hb2 : bat xs[nx] n = (((xs[nx])[n]'hsn).toNat : Int) := bat_at _ _ hsn
                have hsm2 : same = decide (bat xs[nx] n = cI) := by rw [hsm]; simp [h1, hnx]
                rw [hb2] at hsm2
                clear hsm hb2
                generalize xs[nx] = s3 at hcell hsn hsn2 hsm2
                have y3 : ((0 : Int) ≤ (nx : Int)) = True := eq_true (by omega)
                have y4 : ((nx : Int) < (xs.length : Int)) = True := eq_true (by omega)
                have y5 : ((n : Int) < (s3.size : Int)) = True := eq_true (by omega)
                clear h1
                have hsm3 : ((((s3[n]'hsn).toNat : Nat) : Int) == cI) = same := by rw [hsm2]; rfl
                clear hsm2
                go_wp2
                go_meet
                exact ⟨rfl, rfl⟩
              · have e1 : decide ((nx : Int) < hi) = false := by simpa using h1
                have e1' : decide (nx < hi) = false := by simpa using h1
                have e3 : same = false := by rw [hsm]; simp [h1]
                clear hsm h1
                subst e3
                go_wp2
                go_meet
                exact ⟨rfl, rfl⟩
            case rest =>
              obtain ⟨rfl, rfl⟩ := hcut
              cases same with
              | true =>
                have hh := of_decide_eq_true hsm.symm
                have hh := Aside0.mk hh
                clear hsm
                go_wp2
                go_roundg (hi - (nx + 1))
                case measure => have := hh.out.1; omega
                case rel =>
                  refine ⟨nx + 1, rfl, rfl, by go_num, by have := hh.out.1; omega, by omega, rfl, ⟨fun i hx h1 h2 => ?_⟩⟩
                  rcases Nat.lt_or_ge i nx with h3 | h3
                  · exact hall.out i hx h1 h3
                  · obtain rfl : i = nx := by omega
                    exact hh.out.2.2
              | false =>
                have hh := Aside0.mk (of_decide_eq_false hsm.symm)
                clear hsm x5 x6
                have hgrp : Aside0 (Inner xs ((sts' ++ [(⟨k, cI, n + 1, -1, 0, 0⟩ : TS)]).set k { ti with many := ti.many + 1 }) k n nx hi (J' ++ [(⟨sts'.length, pos, nx⟩ : TJ)])) := by
                  obtain ⟨t0, ht0, h⟩ := inner_group hA.out hI.out hpt (by omega) cI hall.out (fun hx h1 e => hh.out ⟨h1, hx, e⟩)
                  rw [hti.out] at ht0
                  injection ht0 with ht0
                  rw [ht0]
                  exact ⟨h⟩
                clear hh hall hI
                go_wp2_with ((with_reducible refine gate_builtin (b := .append) (xs := #[.tmp 91, .tmp 100]) rfl ?_); (try (refine gate_guard (by rfl) ?_; dsimp only)); at_builtin; refine Kd.Q_append KJ (w0 := w0) w0.heap.size rfl (.tmp 91) (.tmp 100) 127 126 (.agg #[.int .i64 0, .int .i64 0, .int .i64 0]) 24 rfl Try.underlying127 info_job rfl (by decide) (by omega) u2 (⟨k, lo, hi⟩ :: J') ⟨sts'.length, pos, nx⟩ [.int .i64 sts'.length, .int .i64 pos, .int .i64 nx] (fun i => i ≠ b) (fun _ => False) rfl rfl ?aP (fun _ hk => hk.elim) ?aF ?aO ?aB ?aS ?aL ?_; (case aP => exact rfl); (case aF => (intro i hi2; have := hP.out.job.lt; omega)); (case aO => exact hP.out.wait); (case aB => exact hP.out.below); (case aS => exact hP.out.below.size); (case aL => (simp only [List.length_cons]; omega)); intro v1 w1 ho hb hg hat; replace hP := Aside0.mk (hP.out.more ho hb hg); clear ho hb hg hat c1 c2 c3 c4 c5)
                have hP3 := hP.out.drew
                clear hP
                obtain ⟨c1, c6, c3, c4, c5⟩ := hP3.cells
                have c2 := c1
                replace hP3 := Aside0.mk hP3
                have hw1 : wrap64 ((n : Int) + 1) = (n : Int) + 1 := wrap_in (by omega) (by omega)
                refine start_ (n := 16) (S := fun w' => w'.cell? ⟨g, 0, none⟩ = some ((.slice (some ⟨q3, 0, none⟩) sts'.length cap3)) ∧ w'.cell? ⟨b, 0, none⟩ = some (.int .i64 k) ∧ w'.frozen? ⟨g, 0, none⟩ = false) (ds := [15]) #[false, false, false, false, false, false, false, false, false, false, false, false, false, false, false, false] (by kernel_rfl) rfl rfl ⟨c1, c3, c6⟩ (fun hHeld => ?_)
                clear c1 c2 c3 c4 c5 c6
                generalize w1.drew = W2 at hP3 hHeld ⊢
                refine pure_ (i := 0) (N := some 102) (v := ?_) (a' := ?_) #[true, false, false, false, false, false, false, false, false, false, false, false, false, false, false, false] rfl rfl (by kernel_rfl) (fun _ _ _ h => h) (Or.inl ⟨by rfl, ?_⟩) ?_ ?_
                rotate_left
                · intro w'
                  go_simp
                  with_reducible rfl
                rotate_left
                · simp only [Act.put, List.setIfInBounds_toArray, List.set_cons_zero, List.set_cons_succ, i64_w, i32_w]
                  rfl
                refine pure_ (i := 1) (N := some 103) (v := ?_) (a' := ?_) #[true, true, false, false, false, false, false, false, false, false, false, false, false, false, false, false] rfl rfl (by kernel_rfl) (fun _ _ _ h => h) (Or.inl ⟨by rfl, ?_⟩) ?_ ?_
                rotate_left
                · intro w'
                  go_simp
                  with_reducible rfl
                rotate_left
                · simp only [Act.put, List.setIfInBounds_toArray, List.set_cons_zero, List.set_cons_succ, i64_w, i32_w]
                  rfl
                refine pure_ (i := 2) (N := some 104) (v := ?_) (a' := ?_) #[true, true, true, false, false, false, false, false, false, false, false, false, false, false, false, false] rfl rfl (by kernel_rfl) (fun _ _ _ h => h) (Or.inl ⟨by rfl, ?_⟩) ?_ ?_
                rotate_left
                · intro w'
                  go_simp
                  with_reducible rfl
                rotate_left
                · simp only [Act.put, List.setIfInBounds_toArray, List.set_cons_zero, List.set_cons_succ, i64_w, i32_w]
                  rfl
                refine pure_ (i := 3) (N := some 105) (v := ?_) (a' := ?_) #[true, true, true, true, false, false, false, false, false, false, false, false, false, false, false, false] rfl rfl (by kernel_rfl) (fun _ _ _ h => h) (Or.inl ⟨by rfl, ?_⟩) ?_ ?_
                rotate_left
                · intro w'
                  go_simp
                  with_reducible rfl
                rotate_left
                · simp only [Act.put, List.setIfInBounds_toArray, List.set_cons_zero, List.set_cons_succ, i64_w, i32_w]
                  rfl
                refine pure_ (i := 5) (N := some 107) (v := ?_) (a' := ?_) #[true, true, true, true, false, true, false, false, false, false, false, false, false, false, false, false] rfl rfl (by kernel_rfl) (fun _ _ _ h => h) (Or.inl ⟨by rfl, ?_⟩) ?_ ?_
                rotate_left
                · intro w'
                  go_simp
                  with_reducible rfl
                rotate_left
                · simp only [Act.put, List.setIfInBounds_toArray, List.set_cons_zero, List.set_cons_succ, i64_w, i32_w]
                  rfl
                refine pure_ (i := 7) (N := some 109) (v := ?_) (a' := ?_) #[true, true, true, true, false, true, false, true, false, false, false, false, false, false, false, false] rfl rfl (by kernel_rfl) (fun _ _ _ h => h) (Or.inl ⟨by rfl, ?_⟩) ?_ ?_
                rotate_left
                · intro w'
                  go_simp
                  with_reducible rfl
                rotate_left
                · simp only [Act.put, List.setIfInBounds_toArray, List.set_cons_zero, List.set_cons_succ, i64_w, i32_w]
                  rfl
                refine pure_ (i := 8) (N := some 110) (v := ?_) (a' := ?_) #[true, true, true, true, false, true, false, true, true, false, false, false, false, false, false, false] rfl rfl (by kernel_rfl) (fun _ _ _ h => h) (Or.inl ⟨by rfl, ?_⟩) ?_ ?_
                rotate_left
                · intro w'
                  go_simp
                  with_reducible rfl
                rotate_left
                · simp only [Act.put, List.setIfInBounds_toArray, List.set_cons_zero, List.set_cons_succ, i64_w, i32_w]
                  rfl
                refine pure_ (i := 9) (N := some 111) (v := ?_) (a' := ?_) #[true, true, true, true, false, true, false, true, true, true, false, false, false, false, false, false] rfl rfl (by kernel_rfl) (fun _ _ _ h => h) (Or.inl ⟨by rfl, ?_⟩) ?_ ?_
                rotate_left
                · intro w'
                  go_simp
                  with_reducible rfl
                rotate_left
                · simp only [Act.put, List.setIfInBounds_toArray, List.set_cons_zero, List.set_cons_succ, i64_w, i32_w]
                  rfl
                refine take_ (i := 4) (N := some 106) (v := ?_) (a' := ?_) #[true, true, true, true, true, true, false, true, true, true, false, false, false, false, false, false] rfl rfl (by kernel_rfl) (fun _ _ _ h => h) (Or.inl ⟨by rfl, ?_⟩) hHeld ?_ ?_
                rotate_left
                · rintro w' ⟨s0, s1, s2⟩
                  go_simp
                  with_reducible rfl
                rotate_left
                · simp only [Act.put, List.setIfInBounds_toArray, List.set_cons_zero, List.set_cons_succ, i64_w, i32_w]
                  rfl
                refine take_ (i := 6) (N := some 108) (v := ?_) (a' := ?_) #[true, true, true, true, true, true, true, true, true, true, false, false, false, false, false, false] rfl rfl (by kernel_rfl) (fun _ _ _ h => h) (Or.inl ⟨by rfl, ?_⟩) hHeld ?_ ?_
                rotate_left
                · rintro w' ⟨s0, s1, s2⟩
                  go_simp
                  with_reducible rfl
                rotate_left
                · simp only [Act.put, List.setIfInBounds_toArray, List.set_cons_zero, List.set_cons_succ, i64_w, i32_w]
                  rfl
                refine pure_ (i := 10) (N := some 112) (v := ?_) (a' := ?_) #[true, true, true, true, true, true, true, true, true, true, true, false, false, false, false, false] rfl rfl (by kernel_rfl) (fun _ _ _ h => h) (Or.inl ⟨by rfl, ?_⟩) ?_ ?_
                rotate_left
                · intro w'
                  go_simp
                  with_reducible rfl
                rotate_left
                · simp only [Act.put, List.setIfInBounds_toArray, List.set_cons_zero, List.set_cons_succ, i64_w, i32_w]
                  rfl
                refine one_ (i := 11) (N := some 113) #[true, true, true, true, true, true, true, true, true, true, true, true, false, false, false, false] rfl rfl (by kernel_rfl) (by decide) (fun K hK => ?_)
                refine value_ (w1 := ?_) (v := ?_) (by rfl) rfl ?_ ?_
                rotate_left 2
                · go_simp
                  constructor
                  · rfl
                  · rfl
                have hal := fun o => (hP3.out.to ((Below.refl W2.heap.size W2).alloc (Nat.le_refl _) o)).cells
                refine hK.out _ _ ⟨(hal _).1, (hal _).2.2.1, (hal _).2.1⟩ (fun hHeld => ?_)
                clear hK K
                refine norm_ (a' := ?_) ?_ ?_
                rotate_left
                · show Act.put _ (some 113) _ = _
                  simp only [Act.put, List.setIfInBounds_toArray, List.set_cons_zero, List.set_cons_succ, i64_w, i32_w]
                  rfl
                refine one_ (i := 12) (N := some 114) #[true, true, true, true, true, true, true, true, true, true, true, true, true, false, false, false] rfl rfl (by kernel_rfl) (by decide) (fun K hK => ?_)
                clear hal
                refine Kd.R_append_step KS (w0 := w0) w0.heap.size (by rfl) (.tmp 106) (.tmp 113) 122 121 (.agg #[.int .i64 0, .int .u8 0, .int .i64 0, .int .i64 0, .int .i64 0, .int .i64 0]) 48 (by rfl) Try.underlying122 info_state rfl (by decide) (by omega) _ sts' (⟨k, cI, n + 1, -1, 0, 0⟩ : TS) [.int .i64 k, .int .u8 cI, .int .i64 ((n : Int) + 1), .int .i64 (-1), .int .i64 0, .int .i64 0] anyB (fun _ => False) (by rfl) (by rfl) rfl (fun _ hk => hk.elim) ?hfresh hP3.out.trie.row hP3.out.below hP3.out.below.size ?hlen ?_
                case hfresh => exact fun _ _ => trivial
                case hlen => omega
                intro v1 w3 ho hb hg hat
                have hmid := hP3.out.mid hg
                have hP5 := Aside0.mk (hP3.out.state ho hb hg)
                clear ho hb hg hat
                obtain ⟨q4, cap4, hv1, hn4, _, _, hqg4⟩ := hP5.out.trie.form (by simp)
                simp only [List.length_append, List.length_cons, List.length_nil, Nat.zero_add] at hv1 hn4
                subst hv1
                refine hK.out _ _ ⟨hmid.1, hmid.2.2, hmid.2.1⟩ (fun hHeld => ?_)
                clear hK K
                refine norm_ (a' := ?_) ?_ ?_
                rotate_left
                · show Act.put _ (some 114) _ = _
                  simp only [Act.put, List.setIfInBounds_toArray, List.set_cons_zero, List.set_cons_succ, i64_w, i32_w]
                  rfl
                refine pure_ (i := 13) (N := some 115) (v := ?_) (a' := ?_) #[true, true, true, true, true, true, true, true, true, true, true, true, true, true, false, false] rfl rfl (by kernel_rfl) (fun _ _ _ h => h) (Or.inl ⟨by rfl, ?_⟩) ?_ ?_
                rotate_left
                · intro w'
                  go_simp
                  with_reducible rfl
                rotate_left
                · simp only [Act.put, List.setIfInBounds_toArray, List.set_cons_zero, List.set_cons_succ, i64_w, i32_w]
                  rfl
                refine pure_ (i := 14) (N := some 116) (v := ?_) (a' := ?_) #[true, true, true, true, true, true, true, true, true, true, true, true, true, true, true, false] rfl rfl (by kernel_rfl) (fun _ _ _ h => h) (Or.inl ⟨by rfl, ?_⟩) ?_ ?_
                rotate_left
                · intro w'
                  go_simp
                  with_reducible rfl
                rotate_left
                · simp only [Act.put, List.setIfInBounds_toArray, List.set_cons_zero, List.set_cons_succ, i64_w, i32_w]
                  rfl
                refine last_ (i := 15) (N := none) #[true, true, true, true, true, true, true, true, true, true, true, true, true, true, true, true] rfl rfl (by kernel_rfl) (by decide) (fun K hK => ?_)
                refine skip_ (w1 := ?_) (by rfl) rfl ?_ ?_
                rotate_left
                · go_simp
                  rfl
                clear hHeld
                refine hK.out _ _ ?_
                clear hK K
                refine done_ (by kernel_rfl) ?_
                generalize w3.setCell ⟨g, 0, none⟩ _ = W5 at hP5 ⊢
                obtain ⟨sts4, hsts4⟩ : ∃ s, s = sts' ++ [(⟨k, cI, n + 1, -1, 0, 0⟩ : TS)] := ⟨_, rfl⟩
                have hti4 : sts4[k]? = some ti := by rw [hsts4, List.getElem?_append_left hk3]; exact hti.out
                rw [← hsts4] at hP5 hgrp
                have hl4 : sts'.length < sts'.length + 1 := Nat.lt_succ_self _
                generalize sts'.length + 1 = N4 at hP5 hn4 hl4 ⊢
                clear hsts4 hmid
                replace hti4 := Aside0.mk hti4
                go_upto_region 15 with fail
                have hP3 := hP5.out.drew
                obtain ⟨c1, c2, c3, c4, c5⟩ := hP3.cells
                obtain ⟨c6, c7⟩ := hP3.trie.cell hti4.out 5 (by omega)
                simp only [TS.cells, List.getElem?_cons_succ, List.getElem?_cons_zero, hmi.out] at c6
                clear hP5
                replace hP3 := Aside0.mk hP3
                have x1 : ((0 : Int) ≤ (k : Int)) = True := eq_true (by omega)
                have x2 : ((k : Int) < (N4 : Int)) = True := eq_true (by omega)
                have hw2 : wrap64 ((mi : Int) + 1) = (mi : Int) + 1 := wrap_in (by omega) (by omega)
                refine start_ (n := 13) (S := fun w' => w'.cell? ⟨g, 0, none⟩ = some ((.slice (some ⟨q4, 0, none⟩) N4 cap4)) ∧ w'.cell? ⟨b, 0, none⟩ = some (.int .i64 k) ∧ w'.cell? ⟨q4, k * 6 + 5, none⟩ = some (.int .i64 mi) ∧ w'.frozen? ⟨q4, k * 6 + 5, none⟩ = false) (ds := [12]) #[false, false, false, false, false, false, false, false, false, false, false, false, false] (by kernel_rfl) rfl rfl ⟨c1, c3, c6, c7⟩ (fun hHeld => ?_)
                clear c1 c2 c3 c4 c5 c6 c7
                generalize W5.drew = W2 at hP3 hHeld ⊢
                refine pure_ (i := 0) (N := some 117) (v := ?_) (a' := ?_) #[true, false, false, false, false, false, false, false, false, false, false, false, false] rfl rfl (by kernel_rfl) (fun _ _ _ h => h) (Or.inl ⟨by rfl, ?_⟩) ?_ ?_
                rotate_left
                · intro w'
                  go_simp
                  with_reducible rfl
                rotate_left
                · simp only [Act.put, List.setIfInBounds_toArray, List.set_cons_zero, List.set_cons_succ, i64_w, i32_w]
                  rfl
                refine pure_ (i := 1) (N := some 118) (v := ?_) (a' := ?_) #[true, true, false, false, false, false, false, false, false, false, false, false, false] rfl rfl (by kernel_rfl) (fun _ _ _ h => h) (Or.inl ⟨by rfl, ?_⟩) ?_ ?_
                rotate_left
                · intro w'
                  go_simp
                  with_reducible rfl
                rotate_left
                · simp only [Act.put, List.setIfInBounds_toArray, List.set_cons_zero, List.set_cons_succ, i64_w, i32_w]
                  rfl
                refine pure_ (i := 2) (N := some 119) (v := ?_) (a' := ?_) #[true, true, true, false, false, false, false, false, false, false, false, false, false] rfl rfl (by kernel_rfl) (fun _ _ _ h => h) (Or.inl ⟨by rfl, ?_⟩) ?_ ?_
                rotate_left
                · intro w'
                  go_simp
                  with_reducible rfl
                rotate_left
                · simp only [Act.put, List.setIfInBounds_toArray, List.set_cons_zero, List.set_cons_succ, i64_w, i32_w]
                  rfl
                refine pure_ (i := 4) (N := some 121) (v := ?_) (a' := ?_) #[true, true, true, false, true, false, false, false, false, false, false, false, false] rfl rfl (by kernel_rfl) (fun _ _ _ h => h) (Or.inl ⟨by rfl, ?_⟩) ?_ ?_
                rotate_left
                · intro w'
                  go_simp
                  with_reducible rfl
                rotate_left
                · simp only [Act.put, List.setIfInBounds_toArray, List.set_cons_zero, List.set_cons_succ, i64_w, i32_w]
                  rfl
                refine take_ (i := 3) (N := some 120) (v := ?_) (a' := ?_) #[true, true, true, true, true, false, false, false, false, false, false, false, false] rfl rfl (by kernel_rfl) (fun _ _ _ h => h) (Or.inl ⟨by rfl, ?_⟩) hHeld ?_ ?_
                rotate_left
                · rintro w' ⟨s0, s1, s2, s3⟩
                  go_simp
                  with_reducible rfl
                rotate_left
                · simp only [Act.put, List.setIfInBounds_toArray, List.set_cons_zero, List.set_cons_succ, i64_w, i32_w]
                  rfl
                refine take_ (i := 5) (N := some 122) (v := ?_) (a' := ?_) #[true, true, true, true, true, true, false, false, false, false, false, false, false] rfl rfl (by kernel_rfl) (fun _ _ _ h => h) (Or.inl ⟨by rfl, ?_⟩) hHeld ?_ ?_
                rotate_left
                · rintro w' ⟨s0, s1, s2, s3⟩
                  go_simp
                  with_reducible rfl
                rotate_left
                · simp only [Act.put, List.setIfInBounds_toArray, List.set_cons_zero, List.set_cons_succ, i64_w, i32_w]
                  rfl
                refine pure_ (i := 6) (N := some 123) (v := ?_) (a' := ?_) #[true, true, true, true, true, true, true, false, false, false, false, false, false] rfl rfl (by kernel_rfl) (fun _ _ _ h => h) (Or.inl ⟨by rfl, ?_⟩) ?_ ?_
                rotate_left
                · intro w'
                  go_simp
                  with_reducible rfl
                rotate_left
                · simp only [Act.put, List.setIfInBounds_toArray, List.set_cons_zero, List.set_cons_succ, i64_w, i32_w]
                  rfl
                refine pure_ (i := 7) (N := some 124) (v := ?_) (a' := ?_) #[true, true, true, true, true, true, true, true, false, false, false, false, false] rfl rfl (by kernel_rfl) (fun _ _ _ h => h) (Or.inl ⟨by rfl, ?_⟩) ?_ ?_
                rotate_left
                · intro w'
                  go_simp
                  with_reducible rfl
                rotate_left
                · simp only [Act.put, List.setIfInBounds_toArray, List.set_cons_zero, List.set_cons_succ, i64_w, i32_w]
                  rfl
                refine take_ (i := 8) (N := some 125) (v := ?_) (a' := ?_) #[true, true, true, true, true, true, true, true, true, false, false, false, false] rfl rfl (by kernel_rfl) (fun _ _ _ h => h) (Or.inl ⟨by rfl, ?_⟩) hHeld ?_ ?_
                rotate_left
                · rintro w' ⟨s0, s1, s2, s3⟩
                  go_simp
                  with_reducible rfl
                rotate_left
                · simp only [Act.put, List.setIfInBounds_toArray, List.set_cons_zero, List.set_cons_succ, i64_w, i32_w]
                  rfl
                refine pure_ (i := 9) (N := some 126) (v := ?_) (a' := ?_) #[true, true, true, true, true, true, true, true, true, true, false, false, false] rfl rfl (by kernel_rfl) (fun _ _ _ h => h) (Or.inl ⟨by rfl, ?_⟩) ?_ ?_
                rotate_left
                · intro w'
                  go_simp
                  with_reducible rfl
                rotate_left
                · simp only [Act.put, List.setIfInBounds_toArray, List.set_cons_zero, List.set_cons_succ, i64_w, i32_w]
                  rfl
                refine pure_ (i := 10) (N := some 127) (v := ?_) (a' := ?_) #[true, true, true, true, true, true, true, true, true, true, true, false, false] rfl rfl (by kernel_rfl) (fun _ _ _ h => h) (Or.inl ⟨by rfl, ?_⟩) ?_ ?_
                rotate_left
                · intro w'
                  go_simp
                  with_reducible rfl
                rotate_left
                · simp only [Act.put, List.setIfInBounds_toArray, List.set_cons_zero, List.set_cons_succ, i64_w, i32_w]
                  rfl
                refine pure_ (i := 11) (N := some 128) (v := ?_) (a' := ?_) #[true, true, true, true, true, true, true, true, true, true, true, true, false] rfl rfl (by kernel_rfl) (fun _ _ _ h => h) (Or.inl ⟨by rfl, ?_⟩) ?_ ?_
                rotate_left
                · intro w'
                  go_simp
                  with_reducible rfl
                rotate_left
                · simp only [Act.put, List.setIfInBounds_toArray, List.set_cons_zero, List.set_cons_succ, i64_w, i32_w]
                  rfl
                refine last_ (i := 12) (N := none) #[true, true, true, true, true, true, true, true, true, true, true, true, true] rfl rfl (by kernel_rfl) (by decide) (fun K hK => ?_)
                refine skip_ (w1 := ?_) (by rfl) rfl ?_ ?_
                rotate_left
                · go_simp
                  rfl
                clear hHeld
                refine hK.out _ _ ?_
                clear hK K
                refine done_ (by kernel_rfl) ?_
                have hP6 := hP3.out.store hti4.out (t' := { ti with many := ti.many + 1 }) 5 (by omega) (.int .i64 ((mi : Int) + 1)) (by simp [TS.cells, hmi.out])
                replace hP6 := Aside0.mk hP6
                clear hP3
                go_wp2
                go_roundg (hi - nx)
                case measure => omega
                case rel => exact ⟨nx, _, _, J' ++ [(⟨sts'.length, pos, nx⟩ : TJ)], rfl, by omega, hP6, hgrp⟩
        · have d1 : decide ((pos : Int) < hi) = false := by simpa using hlt
          have d1' : decide (pos < hi) = false := by simpa using hlt
          have hend : Aside0 (Outer xs sts' (k + 1) J') := by
            have e : pos = hi := by omega
            have h := hI.out
            rw [e] at h
            exact ⟨inner_close h⟩
          clear hlt hI
          go_wp2
          try rw [Exit.noGoto_ret]
          go_ret
          exact ⟨_, _, sts', J', rfl, hP.out.below, hP.out.trie, hend.out, Kd.Q_mono hP.out.wait (fun _ _ => trivial)⟩
end Go.Proofs.Ythgjckibnojnpaa
namespace Go.Proofs.Ythgjckibnojnpaa
open Go.RowKit Go.Proofs.YthgjckibnojnpaaW.PrintWords Go.Proofs.YthgjckibnojnpaaW.PrintLast Pl

theorem kd_lit {α : Type} (d : Kd α) (W : World) (base e : Nat) (x : α) (cs : List Value) (hb : base ≤ W.heap.size) (hx : d.M W base (fun _ => False) x cs) : d.R e (W.alloc (.cells cs.toArray e)) base anyB (.slice (some ⟨W.heap.size, 0, none⟩) 1 1) [x] := by
  have hl := d.K_len (d.K_of_M hx)
  refine ⟨fun _ _ => trivial, cs, ?_, ?_⟩
  · have := World.ownsRow_lit (base := base) (e := e) (size := d.sz) W cs.toArray 1 hb (by simp [maxLen]) (by simp [hl])
    simpa using this
  · refine ⟨by simp [hl], fun j p hj => ?_⟩
    cases j with
    | zero =>
      simp at hj
      subst hj
      rw [Nat.zero_mul, List.drop_zero, ← hl, List.take_length]
      exact d.M_mono (fun _ h => h.elim) (d.M_move (fun _ h => h.elim) hx)
    | succ j => simp at hj
set_option maxHeartbeats 4000000 in
set_option maxRecDepth 20000 in
theorem trieNew (v : Value) (xs : List ByteArray) (w : World) (h : SetV w v xs) (hA : Asc xs) (hx : xs.length ≤ 65535) (hs : ∀ s ∈ xs, s.size ≤ 65535) (ht : tot xs ≤ 16777216) :
    Calls Try.prog 43 #[v] w fun e w' => ∃ g v' sts, e = .returned (.pointer (some ⟨g, 0, none⟩)) ∧ TMut w' w.heap.size g v' sts ∧ Tree xs (stOf xs) sts sts.length sts.length ∧ Below w.heap.size w w' := by
  have hli := setList v xs w h (by omega)
  have hst := outer_start xs
  replace hst := Aside0.mk hst
  replace hA := Aside0.mk hA
  replace hs := Aside0.mk hs
  replace h := Aside0.mk h
  have hu126 := Try.underlying126
  have hu121 := Try.underlying121
  have hu124 := Try.underlying124
  go_enter Try.func43, Try.ntmps43
  go_wp2_with fail
  refine hli.mono ?_
  rintro e w1 ⟨u, rfl, hR, hb⟩
  obtain ⟨A, c, rfl⟩ := Kd.R_slice hR
  have hC := (Kd.R_reads' hR).2.2
  clear hli hR
  replace hb := Aside0.mk hb
  replace hC := Aside0.mk hC
  go_wp2
  have hstart : ∀ (o1 o2 o3 : Obj), o1 = .cells #[.int .i64 (-1), .int .u8 0, .int .i64 0, .int .i64 (-1), .int .i64 0, .int .i64 0] 121 → o2 = .cells #[.slice (some ⟨w1.heap.size, 0, none⟩) 1 1] 124 → o3 = .cells #[.int .i64 0, .int .i64 0, .int .i64 xs.length] 126 →
      TMut (((w1.alloc o1).alloc o2).alloc o3) w1.heap.size (w1.heap.size + 1) (.slice (some ⟨w1.heap.size, 0, none⟩) 1 1) [⟨-1, 0, 0, -1, 0, 0⟩] ∧ KJ.Q 126 (((w1.alloc o1).alloc o2).alloc o3) w1.heap.size anyB (.slice (some ⟨w1.heap.size + 1 + 1, 0, none⟩) 1 1) [⟨0, 0, xs.length⟩] ∧ Below w1.heap.size w1 (((w1.alloc o1).alloc o2).alloc o3) := by
    intro o1 o2 o3 e1 e2 e3
    have s1 : (w1.alloc o1).heap.size = w1.heap.size + 1 := World.size_alloc ..
    have s2 : ((w1.alloc o1).alloc o2).heap.size = w1.heap.size + 1 + 1 := by rw [World.size_alloc, s1]
    have kS := kd_lit KS w1 w1.heap.size 121 ⟨-1, 0, 0, -1, 0, 0⟩ [.int .i64 (-1), .int .u8 0, .int .i64 0, .int .i64 (-1), .int .i64 0, .int .i64 0] (Nat.le_refl _) rfl
    have kJ := kd_lit KJ ((w1.alloc o1).alloc o2) w1.heap.size 126 ⟨0, 0, xs.length⟩ [.int .i64 0, .int .i64 0, .int .i64 xs.length] (by omega) rfl
    rw [s2] at kJ
    have b2 : Below (w1.alloc o1).heap.size (w1.alloc o1) ((w1.alloc o1).alloc o2) := (Below.refl _ _).alloc (Nat.le_refl _) _
    have b3 : Below ((w1.alloc o1).alloc o2).heap.size ((w1.alloc o1).alloc o2) (((w1.alloc o1).alloc o2).alloc o3) := (Below.refl _ _).alloc (Nat.le_refl _) _
    have hB2 : Blk ((w1.alloc o1).alloc o2) (w1.heap.size + 1) 124 #[.slice (some ⟨w1.heap.size, 0, none⟩) 1 1] := by
      have := Blk.new (w1.alloc o1) 124 #[.slice (some ⟨w1.heap.size, 0, none⟩) 1 1]
      rw [s1, ← e2] at this
      exact this
    have kS : KS.R 121 (w1.alloc o1) w1.heap.size anyB (.slice (some ⟨w1.heap.size, 0, none⟩) 1 1) [⟨-1, 0, 0, -1, 0, 0⟩] := by rw [e1]; exact kS
    refine ⟨(TMut.mk hB2 (by omega) (Kd.R_below kS b2)).below b3, Kd.Q_of_R (by rw [e3]; exact kJ), (((Below.refl _ _).alloc (Nat.le_refl _) _).alloc (by omega) _).alloc (by omega) _⟩
  obtain ⟨hM, hQ, hB⟩ := hstart _ _ _ rfl rfl rfl
  clear hstart
  replace hM := Aside0.mk hM
  replace hQ := Aside0.mk hQ
  replace hB := Aside0.mk hB
  generalize (((w1.alloc (.cells #[.int .i64 (-1), .int .u8 0, .int .i64 0, .int .i64 (-1), .int .i64 0, .int .i64 0] 121)).alloc (.cells #[.slice (some ⟨w1.heap.size, 0, none⟩) 1 1] 124)).alloc (.cells #[.int .i64 0, .int .i64 0, .int .i64 xs.length] 126)) = W2 at hM hQ hB ⊢
  generalize w1.heap.size + 1 = g at hM hQ ⊢
  go_loopg [5] 16777218 (fun gh s5 wx => ∃ (k : Nat) (v' : Value) (sts : List TS) (J : List TJ), gh + k = 16777218 ∧ Aside0 (Outer xs sts k J) ∧ Aside0 (TMut wx w1.heap.size g v' sts) ∧ Aside0 (KJ.Q 126 wx w1.heap.size anyB s5 J) ∧ Aside0 (Below w1.heap.size w1 wx))
  case atStart => exact ⟨0, _, _, _, rfl, hst, hM, hQ, hB⟩
  case round =>
    clear hst hM hQ hB
    obtain ⟨k, v', sts, J, hgk, hO, hM, hQ, hB⟩ := hrel
    rename World => W3
    have hcnt := outer_cnt hO.out
    obtain ⟨A5, c5, hu5, hn5⟩ := Kd.Q_slice hQ.out
    subst hu5
    cases J with
    | nil =>
      have hend := outer_end hO.out
      replace hend := Aside0.mk hend
      clear hO
      go_wp2
      go_ret
      have h1 := hend.out.2
      rw [hend.out.1] at h1
      exact ⟨g, v', sts, rfl, ⟨hM.out.blk, Nat.le_trans hb.out.size hM.out.base, Kd.R_lower hM.out.row hb.out.size⟩, h1, below_then hb.out hb.out.size hB.out⟩
    | cons j J =>
      have hpart := triePart w1 A c xs hC.out hA.out hx hs.out ht W3 hB.out g v' sts k j J hO.out hM.out _ hQ.out
      have d1 : decide (0 < ((J.length : Int) + 1)) = true := by simp
      have d2 : decide (0 < ((((j :: J).length : Nat)) : Int)) = true := by simp
      have hJl := hcnt.2
      rw [List.length_cons] at hJl
      have hcnt1 := hcnt.1
      clear hO hM hQ hB hcnt
      replace hpart := Aside0.mk hpart
      go_wp2_with fail
      refine hpart.out.mono ?_
      rintro e w4 ⟨wv', v2, sts2, J2, rfl, hB, hM, hO, hQ⟩
      obtain ⟨A6, c6, hw6, hn6⟩ := Kd.Q_slice hQ
      subst hw6
      have hQ2 := Kd.Q_drop hQ (k := 1) (by simp)
      replace hB := Aside0.mk hB
      replace hM := Aside0.mk hM
      replace hO := Aside0.mk hO
      clear hpart hQ
      have hk4 := hcnt1
      have hQ3 : Aside0 (c6 = 1 → KJ.Q 126 w4 w1.heap.size anyB (.slice A6 J2.length 0) J2) := ⟨fun e => by
        subst e
        exact hQ2⟩
      have hQ4 : Aside0 (c6 ≠ 1 → KJ.Q 126 w4 w1.heap.size anyB (.slice (A6.map fun x => ⟨x.block, x.off + 3, none⟩) J2.length (c6 - 1)) J2) := ⟨fun e => by
        rw [if_neg e] at hQ2
        have e2 : (fun (x : Addr) => x.add (1 * KJ.sz)) = fun x => ⟨x.block, x.off + 3, none⟩ := by
          funext x
          show x.add 3 = _
          unfold Addr.add
          simp
        rw [e2] at hQ2
        exact hQ2⟩
      clear hQ2
      by_cases hc : c6 = 1
      · have hQ5 := Aside0.mk (hQ3.out hc)
        clear hQ3 hQ4
        go_wp2
        go_roundg (16777218 - (k + 1))
        case measure => omega
        case rel => exact ⟨k + 1, v2, sts2, J2, by omega, hO, hM, hQ5, hB⟩
      · have hQ5 := Aside0.mk (hQ4.out hc)
        clear hQ3 hQ4
        go_wp2
        go_roundg (16777218 - (k + 1))
        case measure => omega
        case rel => exact ⟨k + 1, v2, sts2, J2, by omega, hO, hM, hQ5, hB⟩
end Go.Proofs.Ythgjckibnojnpaa
