/- The reference of layer 11's Put. -/
import Derived.Test.YthgjckibnojnpaaKit
import Derived.Test.YthgjckibnojnpaaBook
import Derived.Test.YthgjckibnojnpaaWLast
import Derived.Test.YthgjckibnojnpaaPAJuratref02Put
import Derived.Test.YthgjckibnojnpaaPAJuratref09Prefix
set_option linter.unusedVariables false
set_option linter.unusedSimpArgs false
namespace Go.Proofs.Ythgjckibnojnpaa
open Go.RowKit Go.Proofs.YthgjckibnojnpaaW.PrintWords Go.Proofs.YthgjckibnojnpaaW.PrintLast PA Pl

theorem strOfNums_cons (x : Int) (l : List Int) : strOfNums (x :: l) = strOfNums [x] ++ strOfNums l := by
  apply tx_inj
  simp [tx, strOfNums_data]
theorem putR_ev (n : Nat) : n ≤ 16777216 → Ev (fun k => juratref02_Put.f k n) (putV n) := by
  induction n using Nat.strongRecOn with
  | _ n ih =>
    intro hn
    refine Ev.step (fun k => by rw [juratref02_Put.f]) ?_
    refine ev_neg (by omega) ?_
    by_cases h : n < 128
    · refine ev_pos (by omega) (ev_eq ev_now ?_)
      unfold putV
      rw [putL_lt h, show (n : Int) % 256 = n from by omega]
    · have e1 : wrap64 (Int.tmod (n : Int) 128 + 128) % 256 = ((n % 128 + 128 : Nat) : Int) := by
        rw [Int.tmod_eq_emod_of_nonneg (by omega), wrap_in (by omega) (by omega)]; omega
      have e2 : wrap64 (Int.tdiv (n : Int) 128) = ((n / 128 : Nat) : Int) := by
        rw [Int.tdiv_eq_ediv_of_nonneg (by omega), wrap_in (by omega) (by omega)]; omega
      rw [e1, e2]
      have hl := putL_length (n / 128)
      refine ev_neg (by omega) (ev_bind (g := fun _ => some [((n % 128 + 128 : Nat) : Int)]) ev_now (ev_bind (ih (n / 128) (by omega) (by omega)) (ev_pos ?_ (ev_eq ev_now ?_))))
      · rw [putV_size, strOfNums_size, List.length_singleton]; omega
      · unfold putV
        rw [putL_ge (n := n) (by omega), strOfNums_cons _ (putL (n / 128))]
theorem prefR_l0 (a b : ByteArray) (ha : a.size ≤ 16777216) (d : Nat) : ∀ k : Nat, k + d = a.size → (∀ j, j < k → (tx a)[j]? = (tx b)[j]?) → k ≤ b.size → Ev (fun n => juratref09_Prefix.l0 n a b k) (pre (tx a) (tx b) : Int) := by
  induction d with
  | zero =>
    intro k hk hs hb
    have h1 : pre (tx a) (tx b) = k := pre_eq _ _ k (by rw [tx_length]; omega) (by rw [tx_length]; omega) hs (fun h => by rw [tx_length] at h; omega)
    exact Ev.step (fun n => by rw [juratref09_Prefix.l0]) (ev_neg (by omega) (ev_eq ev_now (by rw [h1])))
  | succ d ih =>
    intro k hk hs hb
    have hka : k < a.size := by omega
    refine Ev.step (fun n => by rw [juratref09_Prefix.l0]) (ev_pos (by omega) ?_)
    by_cases hkb : k < b.size
    · refine ev_pos (by omega) (ev_pos (by omega) ?_)
      have ea : bt a k = ((tx a)[k]'(by rw [tx_length]; exact hka)).toNat := by rw [← bt_at a k (by simpa using hka), ← tx_get]; rfl
      have eb : bt b k = ((tx b)[k]'(by rw [tx_length]; exact hkb)).toNat := by rw [← bt_at b k (by simpa using hkb), ← tx_get]; rfl
      by_cases he : bt a k = bt b k
      · refine ev_pos he ?_
        rw [wrap_nat (show k < 9223372036854775807 by omega)]
        refine ih (k + 1) (by omega) (fun j hj => ?_) (by omega)
        rcases Nat.lt_or_ge j k with h | h
        · exact hs j h
        · obtain rfl : j = k := by omega
          rw [List.getElem?_eq_getElem (by rw [tx_length]; exact hka), List.getElem?_eq_getElem (by rw [tx_length]; exact hkb)]
          rw [ea, eb] at he
          exact congrArg some (UInt8.toNat_inj.1 (by omega))
      · have h1 : pre (tx a) (tx b) = k := pre_eq _ _ k (by rw [tx_length]; omega) (by rw [tx_length]; omega) hs (fun h h' e => he (by
          rw [List.getElem?_eq_getElem h, List.getElem?_eq_getElem h'] at e
          rw [ea, eb, Option.some.inj e]))
        exact ev_neg he (ev_eq ev_now (by rw [h1]))
    · have h1 : pre (tx a) (tx b) = k := pre_eq _ _ k (by rw [tx_length]; omega) (by rw [tx_length]; omega) hs (fun _ h => by rw [tx_length] at h; omega)
      exact ev_neg (by omega) (ev_eq ev_now (by rw [h1]))
theorem refPrefix (a b : ByteArray) (w : World) (ha : a.size ≤ 16777216) :
    Calls Try.prog 91 #[.string a, .string b] w fun e w' => e = .returned (.int .i64 (pre (tx a) (tx b) : Nat)) ∧ ∃ n, w' = w.drewN n := by
  obtain ⟨k, hk⟩ := (prefR_l0 a b ha a.size 0 (by omega) (fun j hj => by omega) (by omega)).rounds
  exact (juratref09_Prefix.calls k a b _ w hk).mono fun _ _ ⟨h1, h2⟩ => ⟨h1, h2.out⟩
theorem refPut02 (n : Nat) (w : World) (hn : n ≤ 16777216) :
    Calls Try.prog 90 #[.int .i64 n] w fun e w' => e = .returned (.string (putV n)) ∧ Below w.heap.size w w' := by
  obtain ⟨k, hk⟩ := (putR_ev n hn).rounds
  exact juratref02_Put.calls k n _ w hk
theorem shp_zero (xs : List ByteArray) : shp xs 0 = 0 := by
  unfold shp ahd
  rw [if_pos rfl]
  rfl
theorem ofList_append (l : List UInt8) (s : ByteArray) : (⟨l.toArray⟩ : ByteArray) ++ s = ⟨(l ++ s.data.toList).toArray⟩ := by
  apply tx_inj
  simp [tx]
set_option maxHeartbeats 4000000 in
set_option maxRecDepth 20000 in
theorem refPut11 (A : Option Addr) (c : Nat) (xs : List ByteArray) (w : World) (hr : Kd.C Kd.string w A xs.length xs) (hne : xs ≠ []) (hl : xs.length ≤ 65535) (hs : ∀ s ∈ xs, s.size ≤ 65535) :
    Calls Try.prog 38 #[.slice A xs.length c] w fun e w' => e = .returned (.string ⟨(bookTo xs xs.length).toArray⟩) ∧ Below w.heap.size w w' := by
  have hlt := bookTo_le xs hl hs
  have hpos : 0 < xs.length := List.length_pos_iff.2 hne
  have d0 : ((xs.length : Int) == 0) = false := by simp; omega
  have d0' : (xs.length == 0) = false := by simp; omega
  have hp0 := refPut02 xs.length w (by omega)
  have hsz := putV_size xs.length
  have hsz2 := putL_length xs.length
  have hbk0 : (⟨#[106, 117, 114, 97, 116, 1]⟩ : ByteArray) ++ putV xs.length = ⟨(bookTo xs 0).toArray⟩ := ofList_append [106, 117, 114, 97, 116, 1] _
  replace hr := Aside0.mk hr
  go_enter Try.func38, Try.ntmps38
  go_wp2_with fail
  refine hp0.mono ?_
  rintro e w1 ⟨rfl, hb1⟩
  replace hb1 := Aside0.mk hb1
  clear hp0
  go_wp2
  clear hsz hsz2 d0 d0'
  clear hbk0
  go_loopw [3, 4] (fun a i wr => ∃ (k : Nat), k ≤ xs.length ∧ i = .int .i64 k ∧ a = .string ⟨(bookTo xs k).toArray⟩ ∧ Aside0 (Below w.heap.size w wr)) (fun _ i _ => xs.length - (intOf i).toNat)
  case atStart => exact ⟨0, by omega, rfl, rfl, hb1⟩
  case round =>
    clear hb1
    obtain ⟨k, hk, rfl, rfl, hB⟩ := hrel
    have hbl := hlt k hk
    by_cases hk2 : k < xs.length
    · have d1 : decide ((k : Int) < xs.length) = true := by simp; omega
      have hsk := hs xs[k] (List.getElem_mem hk2)
      obtain ⟨ad, e, hcell0⟩ := Kd.at_string hr.out (k : Int) (by omega) (by omega)
      cases e
      rw [rdOf_at xs k hk2, Int.toNat_natCast] at hcell0
      have hc2 := (hB.out.cell (World.block_lt_of_cell? _ _ hcell0)).trans hcell0
      have hgk : xs.getD k ByteArray.empty = xs[k] := by rw [List.getD_eq_getElem?_getD, List.getElem?_eq_getElem hk2]; rfl
      have hsh := shp_le xs k
      have hbk : bookTo xs (k + 1) = bookTo xs k ++ (putB (shp xs k) ++ putB (xs[k].size - shp xs k)) ++ xs[k].data.toList.drop (shp xs k) := by rw [bookTo, hgk]
      rw [hgk] at hsh
      have hgz : xs.length ≤ 65535 := hl
      by_cases hk0 : 0 < k
      · obtain ⟨j, rfl⟩ : ∃ j, k = j + 1 := ⟨k - 1, by omega⟩
        have hj : j < xs.length := by omega
        have hsj := hs xs[j] (List.getElem_mem hj)
        obtain ⟨ad', e, hcell1⟩ := Kd.at_string hr.out (j : Int) (by omega) (by omega)
        cases e
        rw [rdOf_at xs j hj, Int.toNat_natCast] at hcell1
        have hc1 := (hB.out.cell (World.block_lt_of_cell? _ _ hcell1)).trans hcell1
        have hpre : pre (tx xs[j]) (tx xs[j + 1]) = shp xs (j + 1) := by
          unfold shp ahd
          rw [hgk, if_neg (by omega), Nat.add_sub_cancel, List.getD_eq_getElem?_getD, List.getElem?_eq_getElem hj]
          rfl
        generalize xs[j] = q at hsj hc1 hpre
        generalize xs[j + 1] = s at hsk hc2 hgk hsh hbk hpre
        generalize shp xs (j + 1) = p at hsh hbk hpre
        have hB2 := Aside0.mk (show Below w.heap.size w wr.drew from hB.out.drew)
        have e0 : IntKind.i64.wrap (((j + 1 : Nat) : Int) - 1) = (j : Int) := by rw [IntKind.wrap_i64]; omega
        have e0' : wrap64 (((j + 1 : Nat) : Int) - 1) = (j : Int) := (wrap_in (by omega) (by omega)).trans (by omega)
        have d2 : decide (0 < ((j + 1 : Nat) : Int)) = true := decide_eq_true (by omega)
        have d3 : decide (0 < j + 1) = true := by simp
        have x1 : ((0 : Int) ≤ (j : Int)) = True := eq_true (by omega)
        have x2 : ((j : Int) < (xs.length : Int)) = True := eq_true (by omega)
        have x3 : ((0 : Int) ≤ ((j + 1 : Nat) : Int)) = True := eq_true (by omega)
        have x4 : (((j + 1 : Nat) : Int) < (xs.length : Int)) = True := eq_true (by omega)
        generalize hkk : j + 1 = k at *
        go_wp2
        clear hB hcell0 hcell1
        refine start_ (n := 11) (S := fun w' => w'.cell? (ad.add j) = some (.string q) ∧ w'.cell? (ad.add k) = some (.string s)) (ds := []) #[false, false, false, false, false, false, false, false, false, false, false] (by kernel_rfl) rfl rfl ⟨hc1, hc2⟩ (fun hHeld => ?_)
        generalize wr.drew = W1 at hB2 hHeld ⊢
        clear hc1 hc2
        refine pure_ (i := 0) (N := some 21) (v := ?_) (a' := ?_) #[true, false, false, false, false, false, false, false, false, false, false] rfl rfl (by kernel_rfl) (fun _ _ _ h => h) (Or.inl ⟨by rfl, ?_⟩) ?_ ?_
        rotate_left
        · intro w'
          go_simp
          with_reducible rfl
        rotate_left
        · simp only [Act.put, List.setIfInBounds_toArray, List.set_cons_zero, List.set_cons_succ, i64_w, i32_w]
          rfl
        refine pure_ (i := 1) (N := some 22) (v := ?_) (a' := ?_) #[true, true, false, false, false, false, false, false, false, false, false] rfl rfl (by kernel_rfl) (fun _ _ _ h => h) (Or.inl ⟨by rfl, ?_⟩) ?_ ?_
        rotate_left
        · intro w'
          go_simp
          with_reducible rfl
        rotate_left
        · simp only [Act.put, List.setIfInBounds_toArray, List.set_cons_zero, List.set_cons_succ, i64_w, i32_w]
          rfl
        refine pure_ (i := 2) (N := some 23) (v := ?_) (a' := ?_) #[true, true, true, false, false, false, false, false, false, false, false] rfl rfl (by kernel_rfl) (fun _ _ _ h => h) (Or.inl ⟨by rfl, ?_⟩) ?_ ?_
        rotate_left
        · intro w'
          go_simp
          with_reducible rfl
        rotate_left
        · simp only [Act.put, List.setIfInBounds_toArray, List.set_cons_zero, List.set_cons_succ, i64_w, i32_w]
          rfl
        refine pure_ (i := 3) (N := some 24) (v := ?_) (a' := ?_) #[true, true, true, true, false, false, false, false, false, false, false] rfl rfl (by kernel_rfl) (fun _ _ _ h => h) (Or.inl ⟨by rfl, ?_⟩) ?_ ?_
        rotate_left
        · intro w'
          go_simp
          with_reducible rfl
        rotate_left
        · simp only [Act.put, List.setIfInBounds_toArray, List.set_cons_zero, List.set_cons_succ, i64_w, i32_w]
          rfl
        refine pure_ (i := 5) (N := some 26) (v := ?_) (a' := ?_) #[true, true, true, true, false, true, false, false, false, false, false] rfl rfl (by kernel_rfl) (fun _ _ _ h => h) (Or.inl ⟨by rfl, ?_⟩) ?_ ?_
        rotate_left
        · intro w'
          go_simp
          with_reducible rfl
        rotate_left
        · simp only [Act.put, List.setIfInBounds_toArray, List.set_cons_zero, List.set_cons_succ, i64_w, i32_w]
          rfl
        refine pure_ (i := 6) (N := some 27) (v := ?_) (a' := ?_) #[true, true, true, true, false, true, true, false, false, false, false] rfl rfl (by kernel_rfl) (fun _ _ _ h => h) (Or.inl ⟨by rfl, ?_⟩) ?_ ?_
        rotate_left
        · intro w'
          go_simp
          with_reducible rfl
        rotate_left
        · simp only [Act.put, List.setIfInBounds_toArray, List.set_cons_zero, List.set_cons_succ, i64_w, i32_w]
          rfl
        refine pure_ (i := 7) (N := some 28) (v := ?_) (a' := ?_) #[true, true, true, true, false, true, true, true, false, false, false] rfl rfl (by kernel_rfl) (fun _ _ _ h => h) (Or.inl ⟨by rfl, ?_⟩) ?_ ?_
        rotate_left
        · intro w'
          go_simp
          with_reducible rfl
        rotate_left
        · simp only [Act.put, List.setIfInBounds_toArray, List.set_cons_zero, List.set_cons_succ, i64_w, i32_w]
          rfl
        refine take_ (i := 4) (N := some 25) (v := ?_) (a' := ?_) #[true, true, true, true, true, true, true, true, false, false, false] rfl rfl (by kernel_rfl) (fun _ _ _ h => h) (Or.inl ⟨by rfl, ?_⟩) hHeld ?_ ?_
        rotate_left
        · rintro w' ⟨s0, s1⟩
          go_simp
          with_reducible rfl
        rotate_left
        · simp only [Act.put, List.setIfInBounds_toArray, List.set_cons_zero, List.set_cons_succ, i64_w, i32_w]
          rfl
        refine take_ (i := 8) (N := some 29) (v := ?_) (a' := ?_) #[true, true, true, true, true, true, true, true, true, false, false] rfl rfl (by kernel_rfl) (fun _ _ _ h => h) (Or.inl ⟨by rfl, ?_⟩) hHeld ?_ ?_
        rotate_left
        · rintro w' ⟨s0, s1⟩
          go_simp
          with_reducible rfl
        rotate_left
        · simp only [Act.put, List.setIfInBounds_toArray, List.set_cons_zero, List.set_cons_succ, i64_w, i32_w]
          rfl
        refine one_ (i := 9) (N := some 30) #[true, true, true, true, true, true, true, true, true, true, false] rfl rfl (by kernel_rfl) (by decide) (fun K hK => ?_)
        refine goes_ Try.func91 (by kernel_rfl) rfl #[.string q, .string s] (by rfl) rfl rfl (by simp only [List.map_toArray, List.map_cons, List.map_nil]; rfl) ?_
        with_reducible refine (refPrefix q s _ (by omega)).mono ?_
        rintro e w3 ⟨he, n3, hw3⟩
        subst he
        subst hw3
        rw [hpre]
        refine ⟨_, rfl, ?_⟩
        have hB3 := Aside0.mk (below_drewN' hB2.out n3)
        clear hB2
        refine hK.out _ _ ⟨hHeld.1, hHeld.2⟩ (fun hHeld => ?_)
        clear hK K
        refine norm_ (a' := ?_) ?_ ?_
        rotate_left
        · show Act.put _ (some 30) _ = _
          simp only [Act.put, List.setIfInBounds_toArray, List.set_cons_zero, List.set_cons_succ, i64_w, i32_w]
          rfl
        refine pure_ (i := 10) (N := some 5) (v := ?_) (a' := ?_) #[true, true, true, true, true, true, true, true, true, true, true] rfl rfl (by kernel_rfl) (fun _ _ _ h => h) (Or.inl ⟨by rfl, ?_⟩) ?_ ?_
        rotate_left
        · intro w'
          go_simp
          with_reducible rfl
        rotate_left
        · simp only [Act.put, List.setIfInBounds_toArray, List.set_cons_zero, List.set_cons_succ, i64_w, i32_w]
          rfl
        refine done_ (by kernel_rfl) ?_
        
        have hc3 := hHeld.2
        clear hHeld
        generalize W1.drewN n3 = W2 at hB3 hc3 ⊢
        clear hpre x1 x2 e0 e0' hgk hsj hgz
        have hkk2 := Lib.hid hkk
        clear hkk hj
        clear hHeld
        go_wp2
        have hB4 := Aside0.mk (show Below w.heap.size w (W2).drew from hB3.out.drew)
        have e1 : IntKind.i64.wrap ((s.size : Int) - p) = ((s.size - p : Nat) : Int) := by rw [IntKind.wrap_i64]; omega
        have e2 : wrap64 ((s.size : Int) - p) = ((s.size - p : Nat) : Int) := (wrap_in (by omega) (by omega)).trans (by omega)
        have e3 : IntKind.i64.wrap (s.size : Int) = s.size := by rw [IntKind.wrap_i64]; omega
        have e4 : wrap64 (s.size : Int) = s.size := wrap_in (by omega) (by omega)
        have z1 := putV_size p
        have z2 := putL_length p
        have z3 := putV_size (s.size - p)
        have z4 := putL_length (s.size - p)
        have zk : (⟨(bookTo xs k).toArray⟩ : ByteArray).size = (bookTo xs k).length := by simp [ByteArray.size]
        have g1 : (9223372036854775807 < (⟨(bookTo xs k).toArray⟩ : ByteArray).size + (putV p).size) = False := eq_false (by rw [zk, z1]; omega)
        have g2 : (9223372036854775807 < (⟨(bookTo xs k).toArray⟩ : ByteArray).size + (putV p).size + (putV (s.size - p)).size) = False := eq_false (by rw [zk, z1, z3]; omega)
        have g3 : (9223372036854775807 < (⟨(bookTo xs k).toArray⟩ : ByteArray).size + (putV p).size + (putV (s.size - p)).size + (s.size - p)) = False := eq_false (by rw [zk, z1, z3]; omega)
        clear zk z1 z2 z3 z4
        have hps : ((p : Int) ≤ (s.size : Int)) = True := eq_true (by omega)
        have hp0 : ((0 : Int) ≤ (p : Int)) = True := eq_true (by omega)
        have hbk2 : ((((⟨(bookTo xs k).toArray⟩ : ByteArray) ++ putV p) ++ putV (s.size - p)) ++ s.extract p s.size) = ⟨(bookTo xs (k + 1)).toArray⟩ := by
          rw [hbk, ofList_append, ofList_append, ofList_append, extract_data]
          simp [putB]
        have hbk5 : True := by
          trivial
        clear hbk
        have hbk3 := Lib.hid hbk2
        have hbk4 := Lib.hid hbk5
        clear hbk2 hbk5
        generalize (⟨(bookTo xs k).toArray⟩ : ByteArray) = S at hbk3 hbk4 g1 g2 g3 ⊢
        generalize hm : s.size - p = m at e1 e2 hbk3 g2 g3
        have g4 : (9223372036854775807 < S.size + (putV p).size + (putV m).size + (s.size - p)) = False := by rw [hm]; exact g3
        replace hm := Lib.hid hm
        clear hB3
        refine start_ (n := 21) (S := fun w' => w'.cell? (ad.add k) = some (.string s)) (ds := []) #[false, false, false, false, false, false, false, false, false, false, false, false, false, false, false, false, false, false, false, false, false] (by kernel_rfl) rfl rfl (hc3) (fun hHeld => ?_)
        generalize W2.drew = W4 at hB4 hHeld ⊢
        clear hc3
        refine pure_ (i := 0) (N := some 31) (v := ?_) (a' := ?_) #[true, false, false, false, false, false, false, false, false, false, false, false, false, false, false, false, false, false, false, false, false] rfl rfl (by kernel_rfl) (fun _ _ _ h => h) (Or.inl ⟨by rfl, ?_⟩) ?_ ?_
        rotate_left
        · intro w'
          go_simp
          with_reducible rfl
        rotate_left
        · simp only [Act.put, List.setIfInBounds_toArray, List.set_cons_zero, List.set_cons_succ, i64_w, i32_w]
          rfl
        refine pure_ (i := 1) (N := some 32) (v := ?_) (a' := ?_) #[true, true, false, false, false, false, false, false, false, false, false, false, false, false, false, false, false, false, false, false, false] rfl rfl (by kernel_rfl) (fun _ _ _ h => h) (Or.inl ⟨by rfl, ?_⟩) ?_ ?_
        rotate_left
        · intro w'
          go_simp
          with_reducible rfl
        rotate_left
        · simp only [Act.put, List.setIfInBounds_toArray, List.set_cons_zero, List.set_cons_succ, i64_w, i32_w]
          rfl
        refine pure_ (i := 4) (N := some 35) (v := ?_) (a' := ?_) #[true, true, false, false, true, false, false, false, false, false, false, false, false, false, false, false, false, false, false, false, false] rfl rfl (by kernel_rfl) (fun _ _ _ h => h) (Or.inl ⟨by rfl, ?_⟩) ?_ ?_
        rotate_left
        · intro w'
          go_simp
          with_reducible rfl
        rotate_left
        · simp only [Act.put, List.setIfInBounds_toArray, List.set_cons_zero, List.set_cons_succ, i64_w, i32_w]
          rfl
        refine pure_ (i := 5) (N := some 36) (v := ?_) (a' := ?_) #[true, true, false, false, true, true, false, false, false, false, false, false, false, false, false, false, false, false, false, false, false] rfl rfl (by kernel_rfl) (fun _ _ _ h => h) (Or.inl ⟨by rfl, ?_⟩) ?_ ?_
        rotate_left
        · intro w'
          go_simp
          with_reducible rfl
        rotate_left
        · simp only [Act.put, List.setIfInBounds_toArray, List.set_cons_zero, List.set_cons_succ, i64_w, i32_w]
          rfl
        refine pure_ (i := 6) (N := some 37) (v := ?_) (a' := ?_) #[true, true, false, false, true, true, true, false, false, false, false, false, false, false, false, false, false, false, false, false, false] rfl rfl (by kernel_rfl) (fun _ _ _ h => h) (Or.inl ⟨by rfl, ?_⟩) ?_ ?_
        rotate_left
        · intro w'
          go_simp
          with_reducible rfl
        rotate_left
        · simp only [Act.put, List.setIfInBounds_toArray, List.set_cons_zero, List.set_cons_succ, i64_w, i32_w]
          rfl
        refine pure_ (i := 9) (N := some 40) (v := ?_) (a' := ?_) #[true, true, false, false, true, true, true, false, false, true, false, false, false, false, false, false, false, false, false, false, false] rfl rfl (by kernel_rfl) (fun _ _ _ h => h) (Or.inl ⟨by rfl, ?_⟩) ?_ ?_
        rotate_left
        · intro w'
          go_simp
          with_reducible rfl
        rotate_left
        · simp only [Act.put, List.setIfInBounds_toArray, List.set_cons_zero, List.set_cons_succ, i64_w, i32_w]
          rfl
        refine pure_ (i := 13) (N := some 44) (v := ?_) (a' := ?_) #[true, true, false, false, true, true, true, false, false, true, false, false, false, true, false, false, false, false, false, false, false] rfl rfl (by kernel_rfl) (fun _ _ _ h => h) (Or.inl ⟨by rfl, ?_⟩) ?_ ?_
        rotate_left
        · intro w'
          go_simp
          with_reducible rfl
        rotate_left
        · simp only [Act.put, List.setIfInBounds_toArray, List.set_cons_zero, List.set_cons_succ, i64_w, i32_w]
          rfl
        refine pure_ (i := 14) (N := some 45) (v := ?_) (a' := ?_) #[true, true, false, false, true, true, true, false, false, true, false, false, false, true, true, false, false, false, false, false, false] rfl rfl (by kernel_rfl) (fun _ _ _ h => h) (Or.inl ⟨by rfl, ?_⟩) ?_ ?_
        rotate_left
        · intro w'
          go_simp
          with_reducible rfl
        rotate_left
        · simp only [Act.put, List.setIfInBounds_toArray, List.set_cons_zero, List.set_cons_succ, i64_w, i32_w]
          rfl
        refine pure_ (i := 15) (N := some 46) (v := ?_) (a' := ?_) #[true, true, false, false, true, true, true, false, false, true, false, false, false, true, true, true, false, false, false, false, false] rfl rfl (by kernel_rfl) (fun _ _ _ h => h) (Or.inl ⟨by rfl, ?_⟩) ?_ ?_
        rotate_left
        · intro w'
          go_simp
          with_reducible rfl
        rotate_left
        · simp only [Act.put, List.setIfInBounds_toArray, List.set_cons_zero, List.set_cons_succ, i64_w, i32_w]
          rfl
        refine pure_ (i := 17) (N := some 48) (v := ?_) (a' := ?_) #[true, true, false, false, true, true, true, false, false, true, false, false, false, true, true, true, false, true, false, false, false] rfl rfl (by kernel_rfl) (fun _ _ _ h => h) (Or.inl ⟨by rfl, ?_⟩) ?_ ?_
        rotate_left
        · intro w'
          go_simp
          with_reducible rfl
        rotate_left
        · simp only [Act.put, List.setIfInBounds_toArray, List.set_cons_zero, List.set_cons_succ, i64_w, i32_w]
          rfl
        refine take_ (i := 7) (N := some 38) (v := ?_) (a' := ?_) #[true, true, false, false, true, true, true, true, false, true, false, false, false, true, true, true, false, true, false, false, false] rfl rfl (by kernel_rfl) (fun _ _ _ h => h) (Or.inl ⟨by rfl, ?_⟩) hHeld ?_ ?_
        rotate_left
        · intro w' s0
          go_simp
          with_reducible rfl
        rotate_left
        · simp only [Act.put, List.setIfInBounds_toArray, List.set_cons_zero, List.set_cons_succ, i64_w, i32_w]
          rfl
        refine pure_ (i := 8) (N := some 39) (v := ?_) (a' := ?_) #[true, true, false, false, true, true, true, true, true, true, false, false, false, true, true, true, false, true, false, false, false] rfl rfl (by kernel_rfl) (fun _ _ _ h => h) (Or.inl ⟨by rfl, ?_⟩) ?_ ?_
        rotate_left
        · intro w'
          go_simp
          with_reducible rfl
        rotate_left
        · simp only [Act.put, List.setIfInBounds_toArray, List.set_cons_zero, List.set_cons_succ, i64_w, i32_w]
          rfl
        refine pure_ (i := 10) (N := some 41) (v := ?_) (a' := ?_) #[true, true, false, false, true, true, true, true, true, true, true, false, false, true, true, true, false, true, false, false, false] rfl rfl (by kernel_rfl) (fun _ _ _ h => h) (Or.inl ⟨by rfl, ?_⟩) ?_ ?_
        rotate_left
        · intro w'
          go_simp
          with_reducible rfl
        rotate_left
        · simp only [Act.put, List.setIfInBounds_toArray, List.set_cons_zero, List.set_cons_succ, i64_w, i32_w]
          rfl
        refine take_ (i := 16) (N := some 47) (v := ?_) (a' := ?_) #[true, true, false, false, true, true, true, true, true, true, true, false, false, true, true, true, true, true, false, false, false] rfl rfl (by kernel_rfl) (fun _ _ _ h => h) (Or.inl ⟨by rfl, ?_⟩) hHeld ?_ ?_
        rotate_left
        · intro w' s0
          go_simp
          with_reducible rfl
        rotate_left
        · simp only [Act.put, List.setIfInBounds_toArray, List.set_cons_zero, List.set_cons_succ, i64_w, i32_w]
          rfl
        refine pure_ (i := 18) (N := some 49) (v := ?_) (a' := ?_) #[true, true, false, false, true, true, true, true, true, true, true, false, false, true, true, true, true, true, true, false, false] rfl rfl (by kernel_rfl) (fun _ _ _ h => h) (Or.inl ⟨by rfl, ?_⟩) ?_ ?_
        rotate_left
        · intro w'
          go_simp
          with_reducible rfl
        rotate_left
        · simp only [Act.put, List.setIfInBounds_toArray, List.set_cons_zero, List.set_cons_succ, i64_w, i32_w]
          rfl
        refine one_ (i := 2) (N := some 33) #[true, true, true, false, true, true, true, true, true, true, true, false, false, true, true, true, true, true, true, false, false] rfl rfl (by kernel_rfl) (by decide) (fun K hK => ?_)
        refine goes_ Try.func90 (by kernel_rfl) rfl #[.int .i64 (p : Int)] (by rfl) rfl rfl (by simp only [List.map_toArray, List.map_cons, List.map_nil]; rfl) ?_
        with_reducible refine (refPut02 p _ (by omega)).mono ?_
        rintro e w3 ⟨he, hb3⟩
        subst he
        refine ⟨_, rfl, ?_⟩
        have hc3 := (hb3.cell (World.block_lt_of_cell? _ _ hHeld)).trans hHeld
        have hB5 := Aside0.mk (Below.then_ hB4.out hb3)
        clear hB4 hb3
        refine hK.out _ _ (hc3) (fun hHeld => ?_)
        clear hK K
        refine norm_ (a' := ?_) ?_ ?_
        rotate_left
        · show Act.put _ (some 33) _ = _
          simp only [Act.put, List.setIfInBounds_toArray, List.set_cons_zero, List.set_cons_succ, i64_w, i32_w]
          rfl
        refine pure_ (i := 3) (N := some 34) (v := ?_) (a' := ?_) #[true, true, true, true, true, true, true, true, true, true, true, false, false, true, true, true, true, true, true, false, false] rfl rfl (by kernel_rfl) (fun _ _ _ h => h) (Or.inl ⟨by rfl, ?_⟩) ?_ ?_
        rotate_left
        · intro w'
          go_simp
          with_reducible rfl
        rotate_left
        · simp only [Act.put, List.setIfInBounds_toArray, List.set_cons_zero, List.set_cons_succ, i64_w, i32_w]
          rfl
        refine one_ (i := 11) (N := some 42) #[true, true, true, true, true, true, true, true, true, true, true, true, false, true, true, true, true, true, true, false, false] rfl rfl (by kernel_rfl) (by decide) (fun K hK => ?_)
        refine goes_ Try.func90 (by kernel_rfl) rfl #[.int .i64 (m : Int)] (by rfl) rfl rfl (by simp only [List.map_toArray, List.map_cons, List.map_nil]; rfl) ?_
        with_reducible refine (refPut02 m _ (by have := hm.out; omega)).mono ?_
        rintro e w4 ⟨he, hb4⟩
        subst he
        refine ⟨_, rfl, ?_⟩
        have hc4 := (hb4.cell (World.block_lt_of_cell? _ _ hHeld)).trans hHeld
        have hB6 := Aside0.mk (Below.then_ hB5.out hb4)
        clear hB5 hb4
        refine hK.out _ _ (hc4) (fun hHeld => ?_)
        clear hK K
        refine norm_ (a' := ?_) ?_ ?_
        rotate_left
        · show Act.put _ (some 42) _ = _
          simp only [Act.put, List.setIfInBounds_toArray, List.set_cons_zero, List.set_cons_succ, i64_w, i32_w]
          rfl
        refine pure_ (i := 12) (N := some 43) (v := ?_) (a' := ?_) #[true, true, true, true, true, true, true, true, true, true, true, true, true, true, true, true, true, true, true, false, false] rfl rfl (by kernel_rfl) (fun _ _ _ h => h) (Or.inl ⟨by rfl, ?_⟩) ?_ ?_
        rotate_left
        · intro w'
          go_simp
          with_reducible rfl
        rotate_left
        · simp only [Act.put, List.setIfInBounds_toArray, List.set_cons_zero, List.set_cons_succ, i64_w, i32_w]
          rfl
        refine pure_ (i := 19) (N := some 50) (v := ?_) (a' := ?_) #[true, true, true, true, true, true, true, true, true, true, true, true, true, true, true, true, true, true, true, true, false] rfl rfl (by kernel_rfl) (fun _ _ _ h => h) (Or.inl ⟨by rfl, ?_⟩) ?_ ?_
        rotate_left
        · intro w'
          go_simp
          with_reducible rfl
        rotate_left
        · simp only [Act.put, List.setIfInBounds_toArray, List.set_cons_zero, List.set_cons_succ, i64_w, i32_w]
          rfl
        refine pure_ (i := 20) (N := some 3) (v := ?_) (a' := ?_) #[true, true, true, true, true, true, true, true, true, true, true, true, true, true, true, true, true, true, true, true, true] rfl rfl (by kernel_rfl) (fun _ _ _ h => h) (Or.inl ⟨by rfl, ?_⟩) ?_ ?_
        rotate_left
        · intro w'
          go_simp
          with_reducible rfl
        rotate_left
        · simp only [Act.put, List.setIfInBounds_toArray, List.set_cons_zero, List.set_cons_succ, i64_w, i32_w]
          rfl
        refine done_ (by kernel_rfl) ?_
        
        go_wp2
        exact ⟨⟨k + 1, by omega, by go_num, by first | rw [hbk3.out] | rw [hbk4.out], hB6⟩, by simp [intOf]; omega⟩
      · have hkz : k = 0 := by omega
        have hpz : shp xs k = 0 := by rw [hkz]; exact shp_zero xs
        have d2 : decide (0 < (k : Int)) = false := by simp; omega
        have d3 : decide (0 < k) = false := by simp; omega
        have x3 : ((0 : Int) ≤ (k : Int)) = True := eq_true (by omega)
        have x4 : ((k : Int) < (xs.length : Int)) = True := eq_true (by omega)
        rw [hpz] at hbk hsh
        generalize xs[k] = s at hsk hc2 hgk hsh hbk
        have hc3 := hc2
        clear hpz hkz hcell0
        have hP0 : ∀ W, Calls Try.prog 90 #[.int .i64 0] W fun e w' => e = .returned (.string (putV 0)) ∧ Below W.heap.size W w' := fun W => refPut02 0 W (by omega)
        go_wp2
        have hB4 := Aside0.mk (show Below w.heap.size w (wr).drew from hB.out.drew)
        have e1 : IntKind.i64.wrap ((s.size : Int) - 0) = ((s.size : Nat) : Int) := by rw [IntKind.wrap_i64]; omega
        have e2 : wrap64 ((s.size : Int) - 0) = ((s.size : Nat) : Int) := (wrap_in (by omega) (by omega)).trans (by omega)
        have e3 : IntKind.i64.wrap (s.size : Int) = s.size := by rw [IntKind.wrap_i64]; omega
        have e4 : wrap64 (s.size : Int) = s.size := wrap_in (by omega) (by omega)
        have z1 := putV_size 0
        have z2 := putL_length 0
        have z3 := putV_size s.size
        have z4 := putL_length s.size
        have zk : (⟨(bookTo xs k).toArray⟩ : ByteArray).size = (bookTo xs k).length := by simp [ByteArray.size]
        have g1 : (9223372036854775807 < (⟨(bookTo xs k).toArray⟩ : ByteArray).size + (putV 0).size) = False := eq_false (by rw [zk, z1]; omega)
        have g2 : (9223372036854775807 < (⟨(bookTo xs k).toArray⟩ : ByteArray).size + (putV 0).size + (putV s.size).size) = False := eq_false (by rw [zk, z1, z3]; omega)
        have g3 : (9223372036854775807 < (⟨(bookTo xs k).toArray⟩ : ByteArray).size + (putV 0).size + (putV s.size).size + s.size) = False := eq_false (by rw [zk, z1, z3]; omega)
        clear zk z1 z2 z3 z4
        have hbk2 : ((((⟨(bookTo xs k).toArray⟩ : ByteArray) ++ putV 0) ++ putV s.size) ++ s.extract 0 s.size) = ⟨(bookTo xs (k + 1)).toArray⟩ := by
          rw [hbk, ofList_append, ofList_append, ofList_append, extract_data]
          simp [putB]
        have hbk5 : (((⟨(bookTo xs k).toArray⟩ : ByteArray) ++ putV 0) ++ putV s.size) ++ s = ⟨(bookTo xs (k + 1)).toArray⟩ := by
          rw [hbk, ofList_append, ofList_append, ofList_append]; simp [putB]
        clear hbk
        have hbk3 := Lib.hid hbk2
        have hbk4 := Lib.hid hbk5
        clear hbk2 hbk5
        generalize (⟨(bookTo xs k).toArray⟩ : ByteArray) = S at hbk3 hbk4 g1 g2 g3 ⊢
        clear hB
        refine start_ (n := 21) (S := fun w' => w'.cell? (ad.add k) = some (.string s)) (ds := []) #[false, false, false, false, false, false, false, false, false, false, false, false, false, false, false, false, false, false, false, false, false] (by kernel_rfl) rfl rfl (hc3) (fun hHeld => ?_)
        generalize wr.drew = W4 at hB4 hHeld ⊢
        clear hc3
        refine pure_ (i := 0) (N := some 31) (v := ?_) (a' := ?_) #[true, false, false, false, false, false, false, false, false, false, false, false, false, false, false, false, false, false, false, false, false] rfl rfl (by kernel_rfl) (fun _ _ _ h => h) (Or.inl ⟨by rfl, ?_⟩) ?_ ?_
        rotate_left
        · intro w'
          go_simp
          with_reducible rfl
        rotate_left
        · simp only [Act.put, List.setIfInBounds_toArray, List.set_cons_zero, List.set_cons_succ, i64_w, i32_w]
          rfl
        refine pure_ (i := 1) (N := some 32) (v := ?_) (a' := ?_) #[true, true, false, false, false, false, false, false, false, false, false, false, false, false, false, false, false, false, false, false, false] rfl rfl (by kernel_rfl) (fun _ _ _ h => h) (Or.inl ⟨by rfl, ?_⟩) ?_ ?_
        rotate_left
        · intro w'
          go_simp
          with_reducible rfl
        rotate_left
        · simp only [Act.put, List.setIfInBounds_toArray, List.set_cons_zero, List.set_cons_succ, i64_w, i32_w]
          rfl
        refine pure_ (i := 4) (N := some 35) (v := ?_) (a' := ?_) #[true, true, false, false, true, false, false, false, false, false, false, false, false, false, false, false, false, false, false, false, false] rfl rfl (by kernel_rfl) (fun _ _ _ h => h) (Or.inl ⟨by rfl, ?_⟩) ?_ ?_
        rotate_left
        · intro w'
          go_simp
          with_reducible rfl
        rotate_left
        · simp only [Act.put, List.setIfInBounds_toArray, List.set_cons_zero, List.set_cons_succ, i64_w, i32_w]
          rfl
        refine pure_ (i := 5) (N := some 36) (v := ?_) (a' := ?_) #[true, true, false, false, true, true, false, false, false, false, false, false, false, false, false, false, false, false, false, false, false] rfl rfl (by kernel_rfl) (fun _ _ _ h => h) (Or.inl ⟨by rfl, ?_⟩) ?_ ?_
        rotate_left
        · intro w'
          go_simp
          with_reducible rfl
        rotate_left
        · simp only [Act.put, List.setIfInBounds_toArray, List.set_cons_zero, List.set_cons_succ, i64_w, i32_w]
          rfl
        refine pure_ (i := 6) (N := some 37) (v := ?_) (a' := ?_) #[true, true, false, false, true, true, true, false, false, false, false, false, false, false, false, false, false, false, false, false, false] rfl rfl (by kernel_rfl) (fun _ _ _ h => h) (Or.inl ⟨by rfl, ?_⟩) ?_ ?_
        rotate_left
        · intro w'
          go_simp
          with_reducible rfl
        rotate_left
        · simp only [Act.put, List.setIfInBounds_toArray, List.set_cons_zero, List.set_cons_succ, i64_w, i32_w]
          rfl
        refine pure_ (i := 9) (N := some 40) (v := ?_) (a' := ?_) #[true, true, false, false, true, true, true, false, false, true, false, false, false, false, false, false, false, false, false, false, false] rfl rfl (by kernel_rfl) (fun _ _ _ h => h) (Or.inl ⟨by rfl, ?_⟩) ?_ ?_
        rotate_left
        · intro w'
          go_simp
          with_reducible rfl
        rotate_left
        · simp only [Act.put, List.setIfInBounds_toArray, List.set_cons_zero, List.set_cons_succ, i64_w, i32_w]
          rfl
        refine pure_ (i := 13) (N := some 44) (v := ?_) (a' := ?_) #[true, true, false, false, true, true, true, false, false, true, false, false, false, true, false, false, false, false, false, false, false] rfl rfl (by kernel_rfl) (fun _ _ _ h => h) (Or.inl ⟨by rfl, ?_⟩) ?_ ?_
        rotate_left
        · intro w'
          go_simp
          with_reducible rfl
        rotate_left
        · simp only [Act.put, List.setIfInBounds_toArray, List.set_cons_zero, List.set_cons_succ, i64_w, i32_w]
          rfl
        refine pure_ (i := 14) (N := some 45) (v := ?_) (a' := ?_) #[true, true, false, false, true, true, true, false, false, true, false, false, false, true, true, false, false, false, false, false, false] rfl rfl (by kernel_rfl) (fun _ _ _ h => h) (Or.inl ⟨by rfl, ?_⟩) ?_ ?_
        rotate_left
        · intro w'
          go_simp
          with_reducible rfl
        rotate_left
        · simp only [Act.put, List.setIfInBounds_toArray, List.set_cons_zero, List.set_cons_succ, i64_w, i32_w]
          rfl
        refine pure_ (i := 15) (N := some 46) (v := ?_) (a' := ?_) #[true, true, false, false, true, true, true, false, false, true, false, false, false, true, true, true, false, false, false, false, false] rfl rfl (by kernel_rfl) (fun _ _ _ h => h) (Or.inl ⟨by rfl, ?_⟩) ?_ ?_
        rotate_left
        · intro w'
          go_simp
          with_reducible rfl
        rotate_left
        · simp only [Act.put, List.setIfInBounds_toArray, List.set_cons_zero, List.set_cons_succ, i64_w, i32_w]
          rfl
        refine pure_ (i := 17) (N := some 48) (v := ?_) (a' := ?_) #[true, true, false, false, true, true, true, false, false, true, false, false, false, true, true, true, false, true, false, false, false] rfl rfl (by kernel_rfl) (fun _ _ _ h => h) (Or.inl ⟨by rfl, ?_⟩) ?_ ?_
        rotate_left
        · intro w'
          go_simp
          with_reducible rfl
        rotate_left
        · simp only [Act.put, List.setIfInBounds_toArray, List.set_cons_zero, List.set_cons_succ, i64_w, i32_w]
          rfl
        refine take_ (i := 7) (N := some 38) (v := ?_) (a' := ?_) #[true, true, false, false, true, true, true, true, false, true, false, false, false, true, true, true, false, true, false, false, false] rfl rfl (by kernel_rfl) (fun _ _ _ h => h) (Or.inl ⟨by rfl, ?_⟩) hHeld ?_ ?_
        rotate_left
        · intro w' s0
          go_simp
          with_reducible rfl
        rotate_left
        · simp only [Act.put, List.setIfInBounds_toArray, List.set_cons_zero, List.set_cons_succ, i64_w, i32_w]
          rfl
        refine pure_ (i := 8) (N := some 39) (v := ?_) (a' := ?_) #[true, true, false, false, true, true, true, true, true, true, false, false, false, true, true, true, false, true, false, false, false] rfl rfl (by kernel_rfl) (fun _ _ _ h => h) (Or.inl ⟨by rfl, ?_⟩) ?_ ?_
        rotate_left
        · intro w'
          go_simp
          with_reducible rfl
        rotate_left
        · simp only [Act.put, List.setIfInBounds_toArray, List.set_cons_zero, List.set_cons_succ, i64_w, i32_w]
          rfl
        refine pure_ (i := 10) (N := some 41) (v := ?_) (a' := ?_) #[true, true, false, false, true, true, true, true, true, true, true, false, false, true, true, true, false, true, false, false, false] rfl rfl (by kernel_rfl) (fun _ _ _ h => h) (Or.inl ⟨by rfl, ?_⟩) ?_ ?_
        rotate_left
        · intro w'
          go_simp
          with_reducible rfl
        rotate_left
        · simp only [Act.put, List.setIfInBounds_toArray, List.set_cons_zero, List.set_cons_succ, i64_w, i32_w]
          rfl
        refine take_ (i := 16) (N := some 47) (v := ?_) (a' := ?_) #[true, true, false, false, true, true, true, true, true, true, true, false, false, true, true, true, true, true, false, false, false] rfl rfl (by kernel_rfl) (fun _ _ _ h => h) (Or.inl ⟨by rfl, ?_⟩) hHeld ?_ ?_
        rotate_left
        · intro w' s0
          go_simp
          with_reducible rfl
        rotate_left
        · simp only [Act.put, List.setIfInBounds_toArray, List.set_cons_zero, List.set_cons_succ, i64_w, i32_w]
          rfl
        refine pure_ (i := 18) (N := some 49) (v := ?_) (a' := ?_) #[true, true, false, false, true, true, true, true, true, true, true, false, false, true, true, true, true, true, true, false, false] rfl rfl (by kernel_rfl) (fun _ _ _ h => h) (Or.inl ⟨by rfl, ?_⟩) ?_ ?_
        rotate_left
        · intro w'
          go_simp
          with_reducible rfl
        rotate_left
        · simp only [Act.put, List.setIfInBounds_toArray, List.set_cons_zero, List.set_cons_succ, i64_w, i32_w]
          rfl
        refine one_ (i := 2) (N := some 33) #[true, true, true, false, true, true, true, true, true, true, true, false, false, true, true, true, true, true, true, false, false] rfl rfl (by kernel_rfl) (by decide) (fun K hK => ?_)
        refine goes_ Try.func90 (by kernel_rfl) rfl #[.int .i64 0] (by rfl) rfl rfl (by simp only [List.map_toArray, List.map_cons, List.map_nil]; rfl) ?_
        with_reducible refine (hP0 _).mono ?_
        rintro e w3 ⟨he, hb3⟩
        subst he
        refine ⟨_, rfl, ?_⟩
        have hc3 := (hb3.cell (World.block_lt_of_cell? _ _ hHeld)).trans hHeld
        have hB5 := Aside0.mk (Below.then_ hB4.out hb3)
        clear hB4 hb3
        refine hK.out _ _ (hc3) (fun hHeld => ?_)
        clear hK K
        refine norm_ (a' := ?_) ?_ ?_
        rotate_left
        · show Act.put _ (some 33) _ = _
          simp only [Act.put, List.setIfInBounds_toArray, List.set_cons_zero, List.set_cons_succ, i64_w, i32_w]
          rfl
        refine pure_ (i := 3) (N := some 34) (v := ?_) (a' := ?_) #[true, true, true, true, true, true, true, true, true, true, true, false, false, true, true, true, true, true, true, false, false] rfl rfl (by kernel_rfl) (fun _ _ _ h => h) (Or.inl ⟨by rfl, ?_⟩) ?_ ?_
        rotate_left
        · intro w'
          go_simp
          with_reducible rfl
        rotate_left
        · simp only [Act.put, List.setIfInBounds_toArray, List.set_cons_zero, List.set_cons_succ, i64_w, i32_w]
          rfl
        refine one_ (i := 11) (N := some 42) #[true, true, true, true, true, true, true, true, true, true, true, true, false, true, true, true, true, true, true, false, false] rfl rfl (by kernel_rfl) (by decide) (fun K hK => ?_)
        refine goes_ Try.func90 (by kernel_rfl) rfl #[.int .i64 (s.size : Int)] (by rfl) rfl rfl (by simp only [List.map_toArray, List.map_cons, List.map_nil]; rfl) ?_
        with_reducible refine (refPut02 s.size _ (by omega)).mono ?_
        rintro e w4 ⟨he, hb4⟩
        subst he
        refine ⟨_, rfl, ?_⟩
        have hc4 := (hb4.cell (World.block_lt_of_cell? _ _ hHeld)).trans hHeld
        have hB6 := Aside0.mk (Below.then_ hB5.out hb4)
        clear hB5 hb4
        refine hK.out _ _ (hc4) (fun hHeld => ?_)
        clear hK K
        refine norm_ (a' := ?_) ?_ ?_
        rotate_left
        · show Act.put _ (some 42) _ = _
          simp only [Act.put, List.setIfInBounds_toArray, List.set_cons_zero, List.set_cons_succ, i64_w, i32_w]
          rfl
        refine pure_ (i := 12) (N := some 43) (v := ?_) (a' := ?_) #[true, true, true, true, true, true, true, true, true, true, true, true, true, true, true, true, true, true, true, false, false] rfl rfl (by kernel_rfl) (fun _ _ _ h => h) (Or.inl ⟨by rfl, ?_⟩) ?_ ?_
        rotate_left
        · intro w'
          go_simp
          with_reducible rfl
        rotate_left
        · simp only [Act.put, List.setIfInBounds_toArray, List.set_cons_zero, List.set_cons_succ, i64_w, i32_w]
          rfl
        refine pure_ (i := 19) (N := some 50) (v := ?_) (a' := ?_) #[true, true, true, true, true, true, true, true, true, true, true, true, true, true, true, true, true, true, true, true, false] rfl rfl (by kernel_rfl) (fun _ _ _ h => h) (Or.inl ⟨by rfl, ?_⟩) ?_ ?_
        rotate_left
        · intro w'
          go_simp
          with_reducible rfl
        rotate_left
        · simp only [Act.put, List.setIfInBounds_toArray, List.set_cons_zero, List.set_cons_succ, i64_w, i32_w]
          rfl
        refine pure_ (i := 20) (N := some 3) (v := ?_) (a' := ?_) #[true, true, true, true, true, true, true, true, true, true, true, true, true, true, true, true, true, true, true, true, true] rfl rfl (by kernel_rfl) (fun _ _ _ h => h) (Or.inl ⟨by rfl, ?_⟩) ?_ ?_
        rotate_left
        · intro w'
          go_simp
          with_reducible rfl
        rotate_left
        · simp only [Act.put, List.setIfInBounds_toArray, List.set_cons_zero, List.set_cons_succ, i64_w, i32_w]
          rfl
        refine done_ (by kernel_rfl) ?_
        
        go_wp2
        exact ⟨⟨k + 1, by omega, by go_num, by first | rw [hbk3.out] | rw [hbk4.out], hB6⟩, by simp [intOf]; omega⟩
    · have d1 : decide ((k : Int) < xs.length) = false := by simp; omega
      obtain rfl : k = xs.length := by omega
      go_wp2
      go_ret
      exact ⟨rfl, hB.out⟩
end Go.Proofs.Ythgjckibnojnpaa
