/- The statement BucketOnce: the plain law, and its walk. -/
import Derived.Test.YthgjckibnojnpaaLaw12
import Derived.Laws.BitsLemmas
set_option linter.unusedVariables false
set_option linter.unusedSimpArgs false
namespace Go.Proofs.Ythgjckibnojnpaa
open Go.RowKit Go.Shelf Go.Proofs.YthgjckibnojnpaaW.PrintWords PA Pl

section Plain

set_option maxHeartbeats 1000000 in
theorem setAt_in (v : Value) (xs : List ByteArray) (i : Nat) (hi : i < xs.length) (w : World) (h : SetV w v xs) (hl : xs.length ≤ 65535) : Calls Try.prog 39 #[v, .int .i64 i] w fun e w' => e = .returned (.tuple #[.string xs[i], .bool true]) ∧ w = w' := by
  have hln := setLen v xs w h
  rcases h with ⟨_, rfl⟩ | ⟨g, rfl, h, hne⟩
  · simp at hi
  · obtain ⟨A, c, c0, c1, c2, c3, hC, hc⟩ := h.cells
    obtain ⟨ad, e, hcell0⟩ := Kd.at_string hC (i : Int) (by omega) (by omega)
    subst e
    have hcell : w.cell? (ad.add i) = some (.string xs[i]) := by
      simpa [rdOf, List.getD_eq_getElem?_getD, List.getElem?_eq_getElem hi] using hcell0
    have d1 : decide ((i : Int) < 0) = false := by simp
    have d2 : decide ((xs.length : Int) ≤ i) = false := by simp; omega
    have d3 : decide (xs.length ≤ i) = false := by simp; omega
    have x1 : ((0 : Int) ≤ (i : Int)) = True := eq_true (by omega)
    have x2 : ((i : Int) < (xs.length : Int)) = True := eq_true (by omega)
    replace h := Aside0.mk h
    replace hC := Aside0.mk hC
    generalize xs[i] = s at hcell ⊢
    clear hcell0
    go_enter Try.func39, Try.ntmps39
    go_wp2_with fail
    refine hln.mono ?_
    rintro e w' ⟨rfl, rfl⟩
    go_wp2
    go_ret2
    exact ⟨rfl, rfl⟩

theorem bytesOf_nums (l : List Int) (h : ∀ x ∈ l, 0 ≤ x ∧ x < 256) : bytesOf (strOfNums l) = l := by
  unfold bytesOf
  rw [strOfNums_data, List.map_map]
  refine (List.map_congr_left (fun x hx => ?_)).trans (List.map_id _)
  have := h x hx
  simp only [Function.comp, UInt8.toNat_ofNat', id]
  omega
theorem strOfNums_at (l : List Int) (h : ∀ x ∈ l, 0 ≤ x ∧ x < 256) (k : Nat) (hk : k < (strOfNums l).size) : (((strOfNums l)[k]'hk).toNat : Int) = rd l k := by
  have h1 : bt (strOfNums l) k = rd l k := by rw [← rd_bytesOf, bytesOf_nums l h]
  rw [← h1, ← bt_at _ k (by simpa using hk)]
  rfl
namespace Pl
/-- How many patterns the first so many buckets hold. -/
def sumTo (xs : List ByteArray) (cs : List Int) : Nat := (cs.map (fun c => (idsTo xs xs.length c).length)).sum
theorem sumTo_snoc (xs : List ByteArray) (cs : List Int) (c : Int) : sumTo xs (cs ++ [c]) = sumTo xs cs + (idsTo xs xs.length c).length := by simp [sumTo]
theorem lastB_byte (s : ByteArray) : ∃ c : Nat, c < 256 ∧ lastB s = c := by
  unfold lastB bt
  split
  · exact ⟨_, UInt8.toNat_lt _, rfl⟩
  · exact ⟨0, by omega, rfl⟩
theorem sum_pointwise (f g : Nat → Nat) (n : Nat) : ((List.range n).map (fun c => f c + g c)).sum = ((List.range n).map f).sum + ((List.range n).map g).sum := by
  induction n with
  | zero => simp
  | succ n ih => simp only [List.range_succ, List.map_append, List.sum_append, List.map_cons, List.map_nil, List.sum_cons, List.sum_nil, ih]; omega
theorem sum_one (n c0 : Nat) (h : c0 < n) : ((List.range n).map (fun c => if c = c0 then 1 else 0)).sum = 1 := by
  induction n with
  | zero => omega
  | succ n ih =>
    simp only [List.range_succ, List.map_append, List.sum_append, List.map_cons, List.map_nil, List.sum_cons, List.sum_nil]
    by_cases e : n = c0
    · subst e
      have : ((List.range n).map (fun c => if c = n then 1 else 0)).sum = 0 := by
        rw [List.sum_eq_zero_iff_forall_eq_nat]
        intro x hx
        obtain ⟨c, hc, rfl⟩ := List.mem_map.1 hx
        rw [List.mem_range] at hc
        rw [if_neg (by omega)]
      rw [this]; simp
    · rw [ih (by omega), if_neg e]; rfl
theorem ids_total (xs : List ByteArray) (k : Nat) : ((List.range 256).map (fun c : Nat => (idsTo xs k c).length)).sum = k := by
  induction k with
  | zero =>
    have : ∀ c : Nat, (idsTo xs 0 c).length = 0 := fun c => by have := idsTo_le xs 0 c; omega
    rw [List.sum_eq_zero_iff_forall_eq_nat]
    intro x hx
    obtain ⟨c, hc, rfl⟩ := List.mem_map.1 hx
    exact this c
  | succ k ih =>
    obtain ⟨c0, h1, h2⟩ := lastB_byte (xs.getD k ByteArray.empty)
    have : ∀ c : Nat, (idsTo xs (k + 1) c).length = (idsTo xs k c).length + (if c = c0 then 1 else 0) := fun c => by
      rw [idsTo_succ, h2]
      by_cases e : c = c0
      · subst e; rw [if_pos rfl, if_pos rfl]; simp
      · rw [if_neg (by omega), if_neg e]; simp
    simp only [this]
    rw [sum_pointwise, ih, sum_one 256 c0 h1]
theorem sum_bytesTo (xs : List ByteArray) (k : Nat) : sumTo xs (bytesTo xs k) = ((List.range k).map (fun c : Nat => (idsTo xs xs.length c).length)).sum := by
  induction k with
  | zero => rfl
  | succ k ih =>
    rw [bytesTo_succ, List.range_succ, List.map_append, List.sum_append, ← ih]
    by_cases h : 0 < (idsTo xs xs.length (k : Int)).length
    · rw [if_pos h, sumTo_snoc]; simp
    · have h0 : (idsTo xs xs.length (k : Int)).length = 0 := by omega
      rw [if_neg h, List.map_singleton, List.sum_singleton, h0, Nat.add_zero]
theorem sum_all (xs : List ByteArray) : sumTo xs (bytesTo xs 256) = xs.length := by rw [sum_bytesTo, ids_total]
theorem bytesTo_mem {xs : List ByteArray} {k : Nat} {c : Int} (h : c ∈ bytesTo xs k) : 0 ≤ c ∧ c < k := by
  unfold bytesTo at h
  obtain ⟨j, hj, rfl⟩ := List.mem_map.1 h
  have := (List.mem_filter.1 hj).1
  rw [List.mem_range] at this
  omega
theorem idsTo_last {xs : List ByteArray} {k : Nat} {c i : Int} (h : i ∈ idsTo xs k c) : ∃ j : Nat, i = j ∧ j < k ∧ lastB (xs.getD j ByteArray.empty) = c := by
  unfold idsTo at h
  obtain ⟨j, hj, rfl⟩ := List.mem_map.1 h
  obtain ⟨h1, h2⟩ := List.mem_filter.1 hj
  rw [List.mem_range] at h1
  exact ⟨j, rfl, h1, by simpa using h2⟩
theorem sumTo_le (xs : List ByteArray) (cs : List Int) : sumTo xs cs ≤ cs.length * xs.length := by
  induction cs with
  | nil => simp [sumTo]
  | cons c cs ih =>
    have := idsTo_le xs xs.length c
    unfold sumTo at ih ⊢
    simp only [List.map_cons, List.sum_cons, List.length_cons]
    rw [Nat.add_mul]
    omega
end Pl
end Plain
attribute [local go_sem] Oper.semAt_some

theorem and_mask (e : Int) (m : Nat) (hm : m < 4611686018427387904) : ∃ r : Nat, r ≤ m ∧ bits .and .i64 e (m : Int) = r := by
  refine ⟨(BitVec.ofInt 64 e &&& BitVec.ofInt 64 (m : Int)).toNat, ?_, ?_⟩
  · rw [BitVec.toNat_and, BitVec.ofInt_natCast, BitVec.toNat_ofNat]
    refine Nat.le_trans Nat.and_le_right ?_
    exact Nat.mod_le _ _
  · have h : (BitVec.ofInt 64 e &&& BitVec.ofInt 64 (m : Int)).toNat ≤ m := by
      rw [BitVec.toNat_and, BitVec.ofInt_natCast, BitVec.toNat_ofNat]
      exact Nat.le_trans Nat.and_le_right (Nat.mod_le _ _)
    have h2 : bits .and .i64 e (m : Int) = IntKind.i64.wrap ((BitVec.ofInt 64 e &&& BitVec.ofInt 64 (m : Int)).toNat : Int) := rfl
    rw [h2, IntKind.wrap_i64]
    omega
theorem func_nil (cs : Array Value) (W : World) : (binOp .eql 55 (.func (.func 92) #[] cs) .nilFunc).run Try.prog W = .ok (.bool false) W := by
  have h : ∀ d, (Op.equalIn (d + 1) 55 (.func (.func 92) #[] cs) .nilFunc).run Try.prog W = .ok false W := fun d => by
    simp [Op.equalIn, run_underlying Try.underlying55]
  simp only [binOp]
  simp [Op.equal, Op.maxDepth, h 9999]
theorem BukO.away {W : World} {B g : Nat} {cs : Array Value} {own : Nat → Nat} {ids : Nat → List Int} {lst : Nat → Int} (h : BukO W B g cs own ids lst) {p : Addr} (hp : p.block < B) (hg : g ≠ p.block) (u : Value) : BukO (W.setCell p u) B g cs own ids lst :=
  ⟨h.blk.far hg u, h.size, fun c hc => by
    obtain ⟨v, h1, h2⟩ := h.row c hc
    exact ⟨v, h1, Kd.R_mono (Kd.R_far (Kd.R_bound h2) (fun k hk => by have := hk.2.1; omega) u) (fun _ hk => hk.1)⟩, h.least⟩
set_option maxRecDepth 100000 in
set_option maxHeartbeats 4000000 in
theorem once_in (A : Option Addr) (c : Nat) (l : List ByteArray) (b : Nat) (hb256 : b < 256) (e : Int) (w : World) (hr : Kd.C Kd.string w A l.length l) (hc : l.length ≤ c) (hfew : few l 20 50 = true) :
    CallsIn Fence.wide 6 Try.prog 6 #[.slice A l.length c, .int .u8 b, .int .i64 e] w fun r w' => r = .returned (.bool true) ∧ Below w.heap.size w w' := by
  obtain ⟨hl12, hs20⟩ := few_iff.1 hfew
  have hba : Below w.heap.size w (w.alloc (.cells #[.int .i64 e] 3)) := (Below.refl _ _).alloc (Nat.le_refl _) _
  have hF := fewCall A c l 20 50 _ (Kd.C_below hr hba) hc (by omega)
  have hbox := Blk.new w 3 #[.int .i64 e]
  rw [hfew] at hF
  replace hfew := Lib.hid hfew
  have hf : Fit l := fun s hs => by have := hs20 s hs; omega
  have hT := theSet_tame l
  have hTl : (theSet l).length ≤ 20 := by have := theSet_length l; omega
  replace hr := Aside0.mk hr
  refine callsIn_of_wp_marks Try.func6 rfl trivial ?_ rfl
  simp only [Try.ntmps6, List.size_toArray, List.length_cons, List.length_nil, Nat.reduceAdd, Nat.reduceSub, Array.replicate_succ, Array.replicate_zero, List.push_toArray, List.append_toArray, List.nil_append, List.cons_append]
  gi_wp2_with fail
  refine ⟨trivial, (callsIn_wide.2 hF).mono ?_⟩
  rintro r w' ⟨rfl, n, rfl⟩
  have hb0 : Below w.heap.size w ((w.alloc (.cells #[.int .i64 e] 3)).drewN n) := below_drewN' hba n
  have hr0 := Kd.C_below hr.out hb0
  have hx0 : Blk ((w.alloc (.cells #[.int .i64 e] 3)).drewN n) w.heap.size 3 #[.int .i64 e] := hbox.drewN n
  clear hF hba hbox
  generalize (w.alloc (.cells #[.int .i64 e] 3)).drewN n = w0 at hb0 hr0 hx0 ⊢
  have hN := newSet A c l _ hr0 hf
  replace hr0 := Aside0.mk hr0
  replace hb0 := Aside0.mk hb0
  replace hx0 := Aside0.mk hx0
  clear hr
  gi_wp2_with fail
  refine ⟨trivial, (callsIn_wide.2 hN).mono ?_⟩
  rintro r w1 ⟨v, rfl, hS, hb1⟩
  have hb01 := Aside0.mk (Below.then_ hb0.out hb1)
  have hx1 := Aside0.mk (hx0.out.below hb1 hx0.out.lt)
  have hx1lt := hx1.out.lt
  have hK := buckNew v (theSet l) _ hS (by omega) hT.fit (fun s hs => (hT.size s hs).1)
  replace hS := Aside0.mk hS
  clear hb1 hN hb0 hx0 hr0
  generalize newE l = E
  gi_wp2_with fail
  refine ⟨trivial, (callsIn_wide.2 hK).mono ?_⟩
  rintro r w2 ⟨g, rfl, hI, hb2⟩
  have hb02 := Aside0.mk (Below.then_ hb01.out hb2)
  have hx2 := Aside0.mk (hx1.out.below hb2 hx1.out.lt)
  have hS2 := Aside0.mk (hS.out.below hb2)
  have hB2 := hI.at_
  have hY := buckBytes g _ _ hB2
  replace hB2 := Aside0.mk hB2
  have hI2 := Aside0.mk hI
  clear hK hI hb2 hS hx1 hb01
  gi_wp2_with fail
  refine ⟨trivial, (callsIn_wide.2 hY).mono ?_⟩
  rintro r w3 ⟨rfl, hb3⟩
  have hb03 := Aside0.mk (Below.then_ hb02.out hb3)
  have hx3 := Aside0.mk (hx2.out.below hb3 hx2.out.lt)
  have hS3 := Aside0.mk (hS2.out.below hb3)
  have hB3 := Aside0.mk (hB2.out.below hb3)
  have hI3 : BukIn w3 w1.heap.size g (fun c => idsTo (theSet l) (theSet l).length c) (fun c => mn (lensTo (theSet l) (theSet l).length c)) := by
    obtain ⟨cs, own, hO⟩ := hI2.out
    exact ⟨cs, own, hO.below hb3⟩
  replace hI3 := Aside0.mk hI3
  have hx1s := Aside0.mk hx1lt
  clear hY hb3 hS2 hx2 hb02 hB2 hI2 hx1lt
  replace hT := Aside0.mk hT
  generalize theSet l = X at *
  have hal : (strOfNums (bytesTo X 256)).size = (bytesTo X 256).length := strOfNums_size _
  have hble := bytesTo_le X 256
  have hbm : ∀ x ∈ bytesTo X 256, 0 ≤ x ∧ x < 256 := fun x hx => bytesTo_mem hx
  have hat := strOfNums_at (bytesTo X 256) hbm
  have hall := sum_all X
  generalize strOfNums (bytesTo X 256) = S at hal hat ⊢
  generalize bytesTo X 256 = bs at hal hat hble hbm hall ⊢
  replace hat := Aside0.mk hat
  replace hall := Lib.hid hall
  replace hbm := Aside0.mk hbm
  gi_wp2
  gi_loopw [10, 12] (fun n i wr => ∃ (k : Nat), i = .int .i64 k ∧ k ≤ bs.length ∧ n = .int .i64 (sumTo X (bs.take k)) ∧ Aside0 (Below w3.heap.size w3 wr)) (fun _ i _ => bs.length - (intOf i).toNat)
  case atStart => exact ⟨0, rfl, by omega, rfl, ⟨Below.refl _ _⟩⟩
  case round =>
    obtain ⟨k, rfl, hk, rfl, hB⟩ := hrel
    by_cases hlt : k < bs.length
    · have hck := hbm.out _ (List.getElem_mem hlt)
      obtain ⟨c0, hc0⟩ : ∃ c0 : Nat, bs[k] = c0 := ⟨bs[k].toNat, by omega⟩
      have hc256 : c0 < 256 := by omega
      have hsum : sumTo X (bs.take (k + 1)) = sumTo X (bs.take k) + (idsTo X X.length c0).length := by
        rw [List.take_succ_eq_append_getElem hlt, sumTo_snoc, hc0]
      have hsle := sumTo_le X (bs.take k)
      have hsle2 : sumTo X (bs.take k) ≤ 256 * 20 := Nat.le_trans hsle (Nat.mul_le_mul (by rw [List.length_take]; omega) hTl)
      have hile := idsTo_le X X.length c0
      have hkS : k < S.size := by rw [hal]; exact hlt
      have hidx : ((S[k]'hkS).toNat : Int) = c0 := (hat.out k hkS).trans (by simp [rd, List.getElem?_eq_getElem hlt, hc0])
      have hids : ∀ i ∈ idsTo X X.length c0, ∃ j : Nat, i = j ∧ j < X.length ∧ lastB (X.getD j ByteArray.empty) = c0 := fun i hi => idsTo_last hi
      have hO := buckOf g X c0 hc256 (by omega) _ (hB3.out.below hB.out)
      generalize idsTo X X.length c0 = ids at hsum hile hO hids
      clear hsle hck
      generalize sumTo X (bs.take k) = sm at hsum hsle2 ⊢
      have d1 : decide ((k : Int) < bs.length) = true := by simp; omega
      have d2 : decide (k < bs.length) = true := by simp; omega
      have q1 : ((k : Int) < bs.length) = True := eq_true (by omega)
      have q2 : ((0 : Int) ≤ (k : Int)) = True := eq_true (by omega)
      replace hO := Aside0.mk hO
      replace hids := Aside0.mk hids
      replace hsum := Lib.hid hsum
      replace hc0 := Lib.hid hc0
      gi_wp2_with fail
      refine ⟨trivial, (callsIn_wide.2 hO.out).mono ?_⟩
      rintro r w4 ⟨v4, rfl, hR4, hb4⟩
      obtain ⟨A4, c4, rfl, hc4, hC4⟩ := Kd.R_reads hR4
      replace hB := Aside0.mk (Below.then_ hB.out hb4)
      replace hC4 := Aside0.mk hC4
      clear hR4 hb4 hO
      gi_wp2_with fail
      gi_loopw [14] (fun i wr => ∃ (j : Nat), i = .int .i64 j ∧ j ≤ ids.length ∧ Aside0 (Below w4.heap.size w4 wr)) (fun i _ => ids.length - (intOf i).toNat)
      case atStart => exact ⟨0, rfl, by omega, ⟨Below.refl _ _⟩⟩
      case round =>
        obtain ⟨j, rfl, hj, hD⟩ := hrel
        by_cases hjl : j < ids.length
        · have e1 : decide ((j : Int) < ids.length) = true := by simp; omega
          have e2 : decide (j < ids.length) = true := by simp; omega
          obtain ⟨i0, hi0, hi1, hi2⟩ := hids.out _ (List.getElem_mem hjl)
          obtain ⟨ad, ea, hcell0⟩ := Kd.at_int (Kd.C_below hC4.out hD.out) (j : Int) (by omega) (by omega)
          subst ea
          have hrd : rd ids j = (i0 : Int) := by simp [rd, List.getElem?_eq_getElem hjl, hi0]
          rw [hrd, Int.toNat_natCast] at hcell0
          have p1 : ((j : Int) < ids.length) = True := eq_true (by omega)
          have p2 : ((0 : Int) ≤ (j : Int)) = True := eq_true (by omega)
          have hA := setAt_in v X i0 hi1 _ (((hS3.out.below hB.out).below hD.out)) (by omega)
          have hz := hT.out.size _ (List.getElem_mem hi1)
          rw [List.getD_eq_getElem?_getD, List.getElem?_eq_getElem hi1, Option.getD_some] at hi2
          generalize X[i0] = s at hA hz hi2
          replace hA := Aside0.mk hA
          clear hi0 hrd
          gi_wp2_with fail
          refine ⟨trivial, (callsIn_wide.2 hA.out).mono ?_⟩
          rintro r w' ⟨rfl, rfl⟩
          clear hA hcell0
          obtain ⟨i1, hi1', hi1l⟩ : ∃ i1 : Nat, (s.size : Int) - 1 = i1 ∧ i1 < s.size := ⟨s.size - 1, by omega, by omega⟩
          have x1 : IntKind.i64.wrap ((s.size : Int) - 1) = (i1 : Int) := by rw [IntKind.wrap_i64]; omega
          have hsl : ((s[i1]'hi1l).toNat : Int) = c0 := by rw [← hi2]; unfold lastB; rw [hi1', ← bt_at s i1 (by simpa using hi1l)]; rfl
          have hem := isEmpty_false (s := s) (by omega)
          have x2 : ((i1 : Int) < s.size) = True := eq_true (by omega)
          gi_wp2
          clear hids hall hbm hat hsum hc0 p1 p2 hsle2 hi1 e1 e2 d1 d2
          gi_region
          gi_wp2
          exact ⟨⟨j + 1, by go_num, by omega, ⟨hD.out.drew⟩⟩, by simp [intOf]; omega⟩
        · have e1 : decide ((j : Int) < ids.length) = false := by simp; omega
          have e2 : decide (j < ids.length) = false := by simp; omega
          gi_wp2
          exact ⟨⟨k + 1, by go_num, by omega, by rw [hsum.out]; simp, ⟨Below.then_ hB.out hD.out⟩⟩, by simp [intOf]; omega⟩
    · obtain rfl : k = bs.length := by omega
      have d1 : decide ((bs.length : Int) < bs.length) = false := by simp
      have d2 : decide (bs.length < bs.length) = false := by simp
      rw [List.take_length, hall.out]
      have hLn := setLen v X _ (hS3.out.below hB.out)
      clear hS3 hall hat hbm hk hlt
      generalize bs.length = bl at d1 d2 hble hal ⊢
      gi_wp2_with fail
      refine ⟨trivial, (callsIn_wide.2 hLn).mono ?_⟩
      rintro r w' ⟨rfl, rfl⟩
      have hx4 := hx3.out.below hB.out hx3.out.lt
      obtain ⟨m0, hm0, hmk⟩ := and_mask e 31 (by decide)
      have hmk' : bits .and .i64 e 31 = (m0 : Int) := hmk
      have hc5 := hx4.cell 0
      have hf5 := hx4.frozen 0
      simp only [List.getElem?_toArray, List.getElem?_cons_zero] at hc5
      clear hmk hLn
      have hx5 := hx4.set_ 0 (.int .i64 m0)
      replace hx4 := Aside0.mk hx4
      replace hx5 := Aside0.mk hx5
      -- HERE
      obtain ⟨i0, hi, hz0, hz1, hz2⟩ := info_parts PA.info3
      have hbV : Below w.heap.size w (wr.setCell ⟨w.heap.size, 0, none⟩ (.int .i64 m0)) := (Below.then_ hb03.out hB.out).setCell (p := ⟨w.heap.size, 0, none⟩) (Nat.le_refl _) _
      have hBV : BukAt (wr.setCell ⟨w.heap.size, 0, none⟩ (.int .i64 m0)) g X := by
        obtain ⟨cs, own, hO⟩ := hI3.out
        have hO2 := hO.below hB.out
        refine BukIn.at_ (B := w1.heap.size) ⟨cs, own, hO2.away hx1s.out (fun eg => ?_) _⟩
        have h1 := hO2.blk
        have h2 := hx4.out
        unfold Blk at h1 h2
        simp only at eg
        rw [eg, h2] at h1
        cases h1
      have hTlX := hTl
      have bO := Boxed.new (wr.setCell ⟨w.heap.size, 0, none⟩ (.int .i64 m0)) 42 (.slice none 0 0)
      have hmc := hx5.out.cell 0
      simp only [List.setIfInBounds_toArray, List.set_cons_zero, List.getElem?_toArray, List.getElem?_cons_zero] at hmc
      replace hbV := Aside0.mk hbV
      replace hBV := Aside0.mk hBV
      replace bO := Aside0.mk bO
      have hmc' := Aside0.mk hmc
      have hvs : wr.heap.size = (wr.setCell ⟨w.heap.size, 0, none⟩ (.int .i64 m0)).heap.size := by simp [World.setCell]
      replace hvs := Lib.hid hvs
      clear hx4 hx5 hB hI3 hB3 hb03 hx3 hmc
      gi_wp2_with fail
      clear hc5 hf5
      generalize wr.setCell ⟨w.heap.size, 0, none⟩ (.int .i64 m0) = V at hbV hBV bO hmc' hvs ⊢
      rw [hvs.out]
      refine ⟨trivial, (each_in Fence.wide 5 trivial rfl _ _ _).mono ?_⟩
      rintro r w6 ⟨rfl, rfl⟩
      have hb6 : Below V.heap.size V (((V.alloc (.cells #[.slice none 0 0] 42)).alloc (.cells #[.pointer (some ⟨g, 0, none⟩)] 39)).alloc (.cells #[.int .u8 b] 5)) := (((Below.refl _ V).alloc (Nat.le_refl _) _).alloc (by simp) _).alloc (by simp; omega) _
      have hm := (hb6.cell (World.block_lt_of_cell? _ _ hmc'.out)).trans hmc'.out
      by_cases hm00 : 0 < m0
      · have f0 : decide (0 < (m0 : Int)) = true := by simp; omega
        have f0' : decide (0 < m0) = true := by simp; omega
        have hfn := func_nil #[.pointer (some ⟨V.heap.size + 1, 0, none⟩), .pointer (some ⟨V.heap.size + 1 + 1, 0, none⟩)] (((V.alloc (.cells #[.slice none 0 0] 42)).alloc (.cells #[.pointer (some ⟨g, 0, none⟩)] 39)).alloc (.cells #[.int .u8 b] 5))
        gi_wp2_with fail
        clear hfn hmk' d1 d2 hble hvs
        have bN := Boxed.new (V.alloc (.cells #[.slice none 0 0] 42)) 39 (.pointer (some ⟨g, 0, none⟩))
        have bC := Boxed.new ((V.alloc (.cells #[.slice none 0 0] 42)).alloc (.cells #[.pointer (some ⟨g, 0, none⟩)] 39)) 5 (.int .u8 b)
        rw [World.size_alloc] at bN
        rw [World.size_alloc, World.size_alloc] at bC
        have hwV := hbV.out.size
        have hlw : w.heap.size < V.heap.size := World.block_lt_of_cell? _ _ hmc'.out
        have hid : Aside0 ((idsTo X X.length b).length ≤ X.length) := ⟨idsTo_le X X.length b⟩
        refine wpIn_rangeFunc_ownG rfl (by decide) (gf := 92) (lb := #[.pointer (some ⟨V.heap.size + 1, 0, none⟩), .pointer (some ⟨V.heap.size + 1 + 1, 0, none⟩)]) rfl trivial (enters_of Try.func92 (by kernel_rfl) rfl)
          (each_stops Fence.wide 5 trivial rfl (by decide) (V.heap.size + 1) (V.heap.size + 1 + 1) g X b hb256 (by omega) V _ hBV.out hb6 (bN.alloc _).cell bC.cell) belowK_t (belowK_b (by simp; omega)) (Below.refl _ _) (fun _ => rfl)
          (fun pre W => (∃ v, Boxed W V.heap.size 42 v ∧ W.ownsRow V.heap.size 3 1 v pre.length (pre.map (Value.int .i64)) ∧ pre.length < m0) ∧ Below V.heap.size V W)
          (fun c pre W => (∃ v, Boxed W V.heap.size 42 v ∧ W.ownsRow V.heap.size 3 1 v pre.length (pre.map (Value.int .i64)) ∧ (pre.length = m0 ∧ c = .exit 4)) ∧ Below V.heap.size V W)
          (OwnFrom.and (Own.from (holdsRow_own V.heap.size V.heap.size 42 3 1 (fun pre : List Int => pre.length) (fun pre => pre.map (Value.int .i64)) (fun pre v => pre.length < m0)) _) (ownFrom_below (Nat.le_refl _) (by simp; omega)))
          (fun c => OwnFrom.and (Own.from (holdsRow_own V.heap.size V.heap.size 42 3 1 (fun pre : List Int => pre.length) (fun pre => pre.map (Value.int .i64)) (fun pre v => pre.length = m0 ∧ c = .exit 4)) _) (ownFrom_below (Nat.le_refl _) (by simp; omega)))
          ⟨⟨_, (bO.out.alloc _).alloc _, World.ownsRow_nil _ _ _ _, hm00⟩, hb6⟩
          (fun x => { tmps := #[.slice A l.length c, .int .u8 b, .int .i64 e, undef, undef, .pointer (some ⟨w.heap.size, 0, none⟩), u6, v, .int .i64 E, (.pointer (some ⟨g, 0, none⟩)), .int .i64 X.length, .string S, .int .i64 bl, u13, u14, u15, u16, .pointer (some ⟨V.heap.size, 0, none⟩), (.func (.func 92) #[] #[.pointer (some ⟨V.heap.size + 1, 0, none⟩), .pointer (some ⟨V.heap.size + 1 + 1, 0, none⟩)]), .int .i64 x, undef, .slice A l.length c, .bool true, .bool false, undef, .tuple #[v, .int .i64 E], .slice A l.length c, .tuple #[v, .int .i64 E], v, .int .i64 E, v, (.pointer (some ⟨g, 0, none⟩)), (.pointer (some ⟨g, 0, none⟩)), .string S, .int .i64 bl, .string S, .int .i64 bl, .bool false, u38, u39, u40, u41, u42, u43, u44, u45, u46, u47, u48, u49, u50, u51, u52, u53, u54, u55, u56, u57, u58, u59, u60, u61, u62, u63, u64, u65, u66, u67, u68, u69, u70, u71, u72, u73, u74, u75, u76, u77, u78, u79, u80, .int .i64 X.length, v, .int .i64 X.length, .bool false, .int .i64 e, .int .i64 m0, (.pointer (some ⟨g, 0, none⟩)), .int .u8 b, (.func (.func 92) #[] #[.pointer (some ⟨V.heap.size + 1, 0, none⟩), .pointer (some ⟨V.heap.size + 1 + 1, 0, none⟩)]), (.func (.func 92) #[] #[.pointer (some ⟨V.heap.size + 1, 0, none⟩), .pointer (some ⟨V.heap.size + 1 + 1, 0, none⟩)]), .bool false, .int .i64 m0, .bool true, (.func (.func 92) #[] #[.pointer (some ⟨V.heap.size + 1, 0, none⟩), .pointer (some ⟨V.heap.size + 1 + 1, 0, none⟩)]), .int .i64 x, undef, undef, undef, undef, undef, undef, undef, undef, undef, undef, undef, undef, undef, undef, undef, undef, undef, undef, undef, undef, undef, undef, undef, undef], defers := [] }) ?assign ?body ?done ?stop
        case assign =>
          intro l x W K hK
          gi_wp2
          exact hK
        case body =>
          rintro l pre x W ⟨⟨v9, hv, hrow, hG⟩, hB⟩ hlt
          have hc := hv.cell
          have hmW := (hB.cell hlw).trans hmc'.out
          have hlid := hid.out
          have hne1 : (w.heap.size = V.heap.size) = False := eq_false (Nat.ne_of_lt hlw)
          have hne2 : (V.heap.size = w.heap.size) = False := eq_false (Nat.ne_of_gt hlw)
          clear hid
          by_cases hq : pre.length + 1 = m0
          · have g1 : ((((pre.length + 1 : Nat) : Int)) == (m0 : Int)) = true := by rw [hq]; simp
            have g2 : ((((pre.length : Int) + 1)) == (m0 : Int)) = true := by rw [← hq]; simp
            replace hq := Lib.hid hq
            gi_wp2_with (gi_at_builtin; refine wpListIn_append_own _ rfl _ _ 42 rfl V.heap.size 3 i0 (.int .i64 0) 1 8 Try.underlying42 hi hz0 hz1 hz2 rfl (by decide) _ _ _ rfl (hrow.alloc _) ⟨W.heap.size, 0, none⟩ 1 1 [.int .i64 x] rfl rfl (cell_one_new _ _ _) (by simp [Value.oneCell']) (by simp only [maxLen]; omega) (by omega) (by have := hB.size; simp; omega) ?_; intro v' w8 hown' hgrow _; obtain ⟨g', cap', rfl⟩ := ownsRow_succ hown'; obtain ⟨hv1, hv2, hr2, hk2, hb2⟩ := hv.appended (by decide) hrow hB.size (Nat.le_refl _) hown' hgrow; have hc1 := hv1.cell; have hf1 := hv1.frozen; have hc2 := hv2.cell; have hmw := (hb2.cell (p := ⟨w.heap.size, 0, none⟩) hlw).trans hmW; have hmw0 := (World.cell?_of_block (a := ⟨w.heap.size, 0, none⟩) (Below.heap_setCell w8 ⟨V.heap.size, 0, none⟩ (.slice (some ⟨g', 0, none⟩) (pre.length + 1) cap') w.heap.size (Nat.ne_of_lt hlw))).symm.trans hmw)
            exact ⟨hk2.from _, ⟨_, hv2, by simpa using hr2, by simpa using hq.out, rfl⟩, hB.trans hb2⟩
          · have g1 : ((((pre.length + 1 : Nat) : Int)) == (m0 : Int)) = false := by rw [beq_eq_false_iff_ne]; omega
            have g2 : ((((pre.length : Int) + 1)) == (m0 : Int)) = false := by rw [beq_eq_false_iff_ne]; omega
            gi_wp2_with (gi_at_builtin; refine wpListIn_append_own _ rfl _ _ 42 rfl V.heap.size 3 i0 (.int .i64 0) 1 8 Try.underlying42 hi hz0 hz1 hz2 rfl (by decide) _ _ _ rfl (hrow.alloc _) ⟨W.heap.size, 0, none⟩ 1 1 [.int .i64 x] rfl rfl (cell_one_new _ _ _) (by simp [Value.oneCell']) (by simp only [maxLen]; omega) (by omega) (by have := hB.size; simp; omega) ?_; intro v' w8 hown' hgrow _; obtain ⟨g', cap', rfl⟩ := ownsRow_succ hown'; obtain ⟨hv1, hv2, hr2, hk2, hb2⟩ := hv.appended (by decide) hrow hB.size (Nat.le_refl _) hown' hgrow; have hc1 := hv1.cell; have hf1 := hv1.frozen; have hc2 := hv2.cell; have hmw := (hb2.cell (p := ⟨w.heap.size, 0, none⟩) hlw).trans hmW; have hmw0 := (World.cell?_of_block (a := ⟨w.heap.size, 0, none⟩) (Below.heap_setCell w8 ⟨V.heap.size, 0, none⟩ (.slice (some ⟨g', 0, none⟩) (pre.length + 1) cap') w.heap.size (Nat.ne_of_lt hlw))).symm.trans hmw)
            exact ⟨hk2.from _, hb2, ⟨_, hv2, by simpa using hr2, by rw [List.length_append, List.length_singleton]; omega⟩, hB.trans hb2⟩
        case done =>
          rintro D ys W hD rfl ⟨⟨v9, hv, hrow, hG⟩, hB⟩ hK
          obtain ⟨tk, htk0⟩ : ∃ tk, tk = idsTo X X.length b := ⟨_, rfl⟩
          have htk : Hid (tk = (idsTo X X.length b).take m0) := Lib.hid (by rw [htk0, List.take_of_length_le (by omega)])
          rw [← htk0] at hrow
          clear hG
          have hR6 : Kd.R (Kd.int .i64) 3 W V.heap.size (fun _ => True) v9 tk := Kd.R_of_own hrow (fun _ _ => trivial)
          obtain ⟨A6, c6, rfl⟩ := Kd.R_slice hR6
          obtain ⟨_, hc6, hMC0⟩ := Kd.R_reads' hR6
          have hMC := Aside0.mk hMC0
          have hM := hv.cell
          have hm := (hB.cell hlw).trans hmc'.out
          have hBW := Aside0.mk (hBV.out.below hB)
          have hbW := Aside0.mk (Below.then_ hbV.out hB)
          have hDw : w.heap.size ≤ D := by simp at hD; omega
          clear hMC0 hR6 hrow hv htk0 hB hD hb6 bN bC bO hBV hbV hmc' f0 f0' 
          gi_wp2_with fail
          refine ⟨trivial, (callsIn_wide.2 (buckOf g X b hb256 (by omega) _ hBW.out)).mono ?_⟩
          rintro r w7 ⟨v7, rfl, hR7, hb7⟩
          obtain ⟨A7, c7, rfl, hc7, hC7⟩ := Kd.R_reads hR7
          have hm7 := (hb7.cell (World.block_lt_of_cell? _ _ hm)).trans hm
          have hM7 := (hb7.cell (World.block_lt_of_cell? _ _ hM)).trans hM
          have hM8 := Aside0.mk (Kd.C_below hMC.out hb7)
          have hK7 := (hb7.block D (Array.getElem?_eq_some_iff.1 hK).1).trans hK
          have hb07 := Aside0.mk (Below.then_ hbW.out hb7)
          replace hC7 := Aside0.mk hC7
          clear hR7 hb7 hm hM hMC hbW hBW hK
          have hile := idsTo_le X X.length b
          generalize idsTo X X.length b = ids at hC7 hc7 hile htk ⊢
          by_cases hgt : m0 < ids.length
          · have f1 : decide ((m0 : Int) < ids.length) = true := by simp; omega
            have f2 : decide (m0 < ids.length) = true := by simp; omega
            obtain ⟨k1, k2, k3⟩ := print_take_int (P := Try.prog) (k := .i64) 42 3 Try.underlying42 hi hz1 A7 c7 ids (m0 : Int) (by omega) (by omega) hc7
            have k4 : Kd.C (Kd.int .i64) w7 A7 (ids.take m0).length (ids.take m0) := Kd.C_of_reads (d := (0 : Int)) (h1 := fun _ => rfl) (k2 w7 (Kd.reads_of_C (enc := Value.int .i64) (d := (0 : Int)) (h1 := fun _ => rfl) hC7.out))
            have k1' := k1 w7
            have hs := sameCall A6 c6 tk A7 c7 (ids.take m0) w7 hM8.out hc6 k4 k3 (by rw [htk.out, List.length_take]; omega)
            rw [decide_eq_true htk.out] at hs
            have hl2 : (ids.take m0).length = m0 := by rw [List.length_take]; omega
            simp only [hl2] at hs
            (try simp only [Int.toNat_natCast, hl2] at k1')
            clear k1 k2
            replace k4 := Aside0.mk k4
            replace hl2 := Lib.hid hl2
            gi_wp2_with fail
            refine ⟨trivial, (callsIn_wide.2 hs).mono ?_⟩
            rintro r w' ⟨rfl, n8, rfl⟩
            gi_wp2_with fail
            refine ⟨trivial, (callsIn_wide.2 (awake12 _)).mono ?_⟩
            rintro r w9 ⟨rfl, hb9⟩
            have hb10 := Aside0.mk (Below.then_ (below_drewN' hb07.out n8) hb9)
            have hK9 := (hb9.block D (Array.getElem?_eq_some_iff.1 hK7).1).trans hK7
            gi_wp2_with fail
            refine ⟨by simp, .inl ⟨_, _, rfl, run_takeDeferred hK9, ?_⟩⟩
            exact ⟨_, results_tmp rfl _ _ _, rfl, hb10.out.trans (belowK_b (w := w) (Nat.le_refl _) w9 D _ _ hDw hK9 rfl rfl)⟩
          · have f1 : decide ((m0 : Int) < ids.length) = false := decide_eq_false (by omega)
            have f2 : decide (m0 < ids.length) = false := decide_eq_false (by omega)
            have htk2 : tk = ids := htk.out.trans (List.take_of_length_le (l := ids) (show ids.length ≤ m0 from by omega))
            have hs := sameCall A6 c6 tk A7 c7 ids w7 hM8.out hc6 hC7.out hc7 (by have := congrArg List.length htk2; omega)
            rw [decide_eq_true htk2] at hs
            replace htk2 := Lib.hid htk2
            gi_wp2_with fail
            refine ⟨trivial, (callsIn_wide.2 hs).mono ?_⟩
            rintro r w' ⟨rfl, n8, rfl⟩
            gi_wp2_with fail
            refine ⟨trivial, (callsIn_wide.2 (awake12 _)).mono ?_⟩
            rintro r w9 ⟨rfl, hb9⟩
            have hb10 := Aside0.mk (Below.then_ (below_drewN' hb07.out n8) hb9)
            have hK9 := (hb9.block D (Array.getElem?_eq_some_iff.1 hK7).1).trans hK7
            gi_wp2_with fail
            refine ⟨by simp, .inl ⟨_, _, rfl, run_takeDeferred hK9, ?_⟩⟩
            exact ⟨_, results_tmp rfl _ _ _, rfl, hb10.out.trans (belowK_b (w := w) (Nat.le_refl _) w9 D _ _ hDw hK9 rfl rfl)⟩
        case stop =>
          rintro D c9 pre W hD hSp ⟨⟨v9, hv, hrow, hG, rfl⟩, hB⟩ hK
          obtain ⟨tk, htk0⟩ : ∃ tk, tk = pre := ⟨_, rfl⟩
          have htk : Hid (tk = (idsTo X X.length b).take m0) := Lib.hid (by rw [htk0, ← hG]; exact List.prefix_iff_eq_take.1 hSp)
          rw [← htk0] at hrow
          clear hG hSp
          have hR6 : Kd.R (Kd.int .i64) 3 W V.heap.size (fun _ => True) v9 tk := Kd.R_of_own hrow (fun _ _ => trivial)
          obtain ⟨A6, c6, rfl⟩ := Kd.R_slice hR6
          obtain ⟨_, hc6, hMC0⟩ := Kd.R_reads' hR6
          have hMC := Aside0.mk hMC0
          have hM := hv.cell
          have hm := (hB.cell hlw).trans hmc'.out
          have hBW := Aside0.mk (hBV.out.below hB)
          have hbW := Aside0.mk (Below.then_ hbV.out hB)
          have hDw : w.heap.size ≤ D := by simp at hD; omega
          clear hMC0 hR6 hrow hv htk0 hB hD hb6 bN bC bO hBV hbV hmc' f0 f0' 
          gi_wp2_with fail
          refine ⟨trivial, (callsIn_wide.2 (buckOf g X b hb256 (by omega) _ hBW.out)).mono ?_⟩
          rintro r w7 ⟨v7, rfl, hR7, hb7⟩
          obtain ⟨A7, c7, rfl, hc7, hC7⟩ := Kd.R_reads hR7
          have hm7 := (hb7.cell (World.block_lt_of_cell? _ _ hm)).trans hm
          have hM7 := (hb7.cell (World.block_lt_of_cell? _ _ hM)).trans hM
          have hM8 := Aside0.mk (Kd.C_below hMC.out hb7)
          have hK7 := (hb7.block D (Array.getElem?_eq_some_iff.1 hK).1).trans hK
          have hb07 := Aside0.mk (Below.then_ hbW.out hb7)
          replace hC7 := Aside0.mk hC7
          clear hR7 hb7 hm hM hMC hbW hBW hK
          have hile := idsTo_le X X.length b
          generalize idsTo X X.length b = ids at hC7 hc7 hile htk ⊢
          by_cases hgt : m0 < ids.length
          · have f1 : decide ((m0 : Int) < ids.length) = true := by simp; omega
            have f2 : decide (m0 < ids.length) = true := by simp; omega
            obtain ⟨k1, k2, k3⟩ := print_take_int (P := Try.prog) (k := .i64) 42 3 Try.underlying42 hi hz1 A7 c7 ids (m0 : Int) (by omega) (by omega) hc7
            have k4 : Kd.C (Kd.int .i64) w7 A7 (ids.take m0).length (ids.take m0) := Kd.C_of_reads (d := (0 : Int)) (h1 := fun _ => rfl) (k2 w7 (Kd.reads_of_C (enc := Value.int .i64) (d := (0 : Int)) (h1 := fun _ => rfl) hC7.out))
            have k1' := k1 w7
            have hs := sameCall A6 c6 tk A7 c7 (ids.take m0) w7 hM8.out hc6 k4 k3 (by rw [htk.out, List.length_take]; omega)
            rw [decide_eq_true htk.out] at hs
            have hl2 : (ids.take m0).length = m0 := by rw [List.length_take]; omega
            simp only [hl2] at hs
            (try simp only [Int.toNat_natCast, hl2] at k1')
            clear k1 k2
            replace k4 := Aside0.mk k4
            replace hl2 := Lib.hid hl2
            gi_wp2_with fail
            refine ⟨trivial, (callsIn_wide.2 hs).mono ?_⟩
            rintro r w' ⟨rfl, n8, rfl⟩
            gi_wp2_with fail
            refine ⟨trivial, (callsIn_wide.2 (awake12 _)).mono ?_⟩
            rintro r w9 ⟨rfl, hb9⟩
            have hb10 := Aside0.mk (Below.then_ (below_drewN' hb07.out n8) hb9)
            have hK9 := (hb9.block D (Array.getElem?_eq_some_iff.1 hK7).1).trans hK7
            gi_wp2_with fail
            refine ⟨by simp, .inl ⟨_, _, rfl, run_takeDeferred hK9, ?_⟩⟩
            exact ⟨_, results_tmp rfl _ _ _, rfl, hb10.out.trans (belowK_b (w := w) (Nat.le_refl _) w9 D _ _ hDw hK9 rfl rfl)⟩
          · have f1 : decide ((m0 : Int) < ids.length) = false := decide_eq_false (by omega)
            have f2 : decide (m0 < ids.length) = false := decide_eq_false (by omega)
            have htk2 : tk = ids := htk.out.trans (List.take_of_length_le (l := ids) (show ids.length ≤ m0 from by omega))
            have hs := sameCall A6 c6 tk A7 c7 ids w7 hM8.out hc6 hC7.out hc7 (by have := congrArg List.length htk2; omega)
            rw [decide_eq_true htk2] at hs
            replace htk2 := Lib.hid htk2
            gi_wp2_with fail
            refine ⟨trivial, (callsIn_wide.2 hs).mono ?_⟩
            rintro r w' ⟨rfl, n8, rfl⟩
            gi_wp2_with fail
            refine ⟨trivial, (callsIn_wide.2 (awake12 _)).mono ?_⟩
            rintro r w9 ⟨rfl, hb9⟩
            have hb10 := Aside0.mk (Below.then_ (below_drewN' hb07.out n8) hb9)
            have hK9 := (hb9.block D (Array.getElem?_eq_some_iff.1 hK7).1).trans hK7
            gi_wp2_with fail
            refine ⟨by simp, .inl ⟨_, _, rfl, run_takeDeferred hK9, ?_⟩⟩
            exact ⟨_, results_tmp rfl _ _ _, rfl, hb10.out.trans (belowK_b (w := w) (Nat.le_refl _) w9 D _ _ hDw hK9 rfl rfl)⟩
      · have f0 : decide (0 < (m0 : Int)) = false := by simp; omega
        have f0' : decide (0 < m0) = false := by simp; omega
        have hM := ((bO.out.alloc (.cells #[.pointer (some ⟨g, 0, none⟩)] 39)).alloc (.cells #[.int .u8 b] 5)).cell
        have hBW := Aside0.mk (hBV.out.below hb6)
        have hbW := Aside0.mk (Below.then_ hbV.out hb6)
        obtain rfl : m0 = 0 := by omega
        have hMC : Aside0 (Kd.C (Kd.int .i64) (((V.alloc (.cells #[.slice none 0 0] 42)).alloc (.cells #[.pointer (some ⟨g, 0, none⟩)] 39)).alloc (.cells #[.int .u8 b] 5)) none ([] : List Int).length ([] : List Int)) := ⟨⟨rfl, by simp, fun h => absurd h (by simp)⟩⟩
        have hc6 : ([] : List Int).length ≤ 0 := Nat.le_refl _
        have htk : Hid (([] : List Int) = (idsTo X X.length b).take 0) := Lib.hid rfl
        have hfn := func_nil #[.pointer (some ⟨V.heap.size + 1, 0, none⟩), .pointer (some ⟨V.heap.size + 1 + 1, 0, none⟩)] (((V.alloc (.cells #[.slice none 0 0] 42)).alloc (.cells #[.pointer (some ⟨g, 0, none⟩)] 39)).alloc (.cells #[.int .u8 b] 5))
        gi_wp2_with fail
        refine ⟨trivial, (callsIn_wide.2 (buckOf g X b hb256 (by omega) _ hBW.out)).mono ?_⟩
        rintro r w7 ⟨v7, rfl, hR7, hb7⟩
        obtain ⟨A7, c7, rfl, hc7, hC7⟩ := Kd.R_reads hR7
        have hm7 := (hb7.cell (World.block_lt_of_cell? _ _ hm)).trans hm
        have hM7 := (hb7.cell (World.block_lt_of_cell? _ _ hM)).trans hM
        have hM8 := Aside0.mk (Kd.C_below hMC.out hb7)
        have hb07 := Aside0.mk (Below.then_ hbW.out hb7)
        replace hC7 := Aside0.mk hC7
        clear hR7 hb7 hm hM hMC hbW hBW hfn 
        have hile := idsTo_le X X.length b
        generalize idsTo X X.length b = ids at hC7 hc7 hile htk ⊢
        by_cases hgt : 0 < ids.length
        · have f1 : decide ((0 : Int) < ids.length) = true := by simp; omega
          have f2 : decide (0 < ids.length) = true := by simp; omega
          obtain ⟨k1, k2, k3⟩ := print_take_int (P := Try.prog) (k := .i64) 42 3 Try.underlying42 hi hz1 A7 c7 ids (0 : Int) (by omega) (by omega) hc7
          have k4 : Kd.C (Kd.int .i64) w7 A7 (ids.take 0).length (ids.take 0) := Kd.C_of_reads (d := (0 : Int)) (h1 := fun _ => rfl) (k2 w7 (Kd.reads_of_C (enc := Value.int .i64) (d := (0 : Int)) (h1 := fun _ => rfl) hC7.out))
          have k1' := k1 w7
          have hs := sameCall none 0 ([] : List Int) A7 c7 (ids.take 0) w7 hM8.out hc6 k4 k3 (by rw [htk.out, List.length_take]; omega)
          rw [decide_eq_true htk.out] at hs
          have hl2 : (ids.take 0).length = 0 := by rw [List.length_take]; omega
          simp only [hl2] at hs
          (try simp only [Int.toNat_natCast, hl2] at k1')
          clear k1 k2
          replace k4 := Aside0.mk k4
          replace hl2 := Lib.hid hl2
          gi_wp2_with fail
          refine ⟨trivial, (callsIn_wide.2 hs).mono ?_⟩
          rintro r w' ⟨rfl, n8, rfl⟩
          gi_wp2_with fail
          refine ⟨trivial, (callsIn_wide.2 (awake12 _)).mono ?_⟩
          rintro r w9 ⟨rfl, hb9⟩
          have hb10 := Aside0.mk (Below.then_ (below_drewN' hb07.out n8) hb9)
          gi_wp2_with fail
          exact ⟨_, results_tmp rfl _ _ _, rfl, hb10.out⟩
        · have f1 : decide ((0 : Int) < ids.length) = false := decide_eq_false (by omega)
          have f2 : decide (0 < ids.length) = false := decide_eq_false (by omega)
          have htk2 : ([] : List Int) = ids := htk.out.trans (List.take_of_length_le (l := ids) (show ids.length ≤ 0 from by omega))
          have hs := sameCall none 0 ([] : List Int) A7 c7 ids w7 hM8.out hc6 hC7.out hc7 (by have := congrArg List.length htk2; omega)
          rw [decide_eq_true htk2] at hs
          replace htk2 := Lib.hid htk2
          gi_wp2_with fail
          refine ⟨trivial, (callsIn_wide.2 hs).mono ?_⟩
          rintro r w' ⟨rfl, n8, rfl⟩
          gi_wp2_with fail
          refine ⟨trivial, (callsIn_wide.2 (awake12 _)).mono ?_⟩
          rintro r w9 ⟨rfl, hb9⟩
          have hb10 := Aside0.mk (Below.then_ (below_drewN' hb07.out n8) hb9)
          gi_wp2_with fail
          exact ⟨_, results_tmp rfl _ _ _, rfl, hb10.out⟩
theorem bucketOnce_row (A : Option Addr) (c : Nat) (l : List ByteArray) (b : Int) (e : Int) (w : World) (hr : Kd.C Kd.string w A l.length l) (hc : l.length ≤ c) (hl : l.length * 16 ≤ 140737488351232) (hb : (Lit.int .u8 b).wf = true) (he : (Lit.int .i64 e).wf = true) :
    Calls Try.prog 6 #[.slice A l.length c, .int .u8 b, .int .i64 e] w fun r w' => r = .returned (.bool true) ∧ Below w.heap.size w w' := by
  have h := bounds_u8 hb
  obtain ⟨b0, rfl⟩ : ∃ b0 : Nat, b = b0 := ⟨b.toNat, by omega⟩
  cases hfew : few l 20 50 with
  | true => exact callsIn_wide.1 (once_in A c l b0 (by omega) e w hr hc hfew)
  | false =>
    have hba : Below w.heap.size w (w.alloc (.cells #[.int .i64 e] 3)) := (Below.refl _ _).alloc (Nat.le_refl _) _
    have hF := fewCall A c l 20 50 _ (Kd.C_below hr hba) hc (by omega)
    rw [hfew] at hF
    replace hfew := Lib.hid hfew
    replace hba := Aside0.mk hba
    clear hr
    refine (callsIn_wide (n := 6)).1 ?_
    refine callsIn_of_wp_marks Try.func6 rfl trivial ?_ rfl
    simp only [Try.ntmps6, List.size_toArray, List.length_cons, List.length_nil, Nat.reduceAdd, Nat.reduceSub, Array.replicate_succ, Array.replicate_zero, List.push_toArray, List.append_toArray, List.nil_append, List.cons_append]
    gi_wp2_with fail
    refine ⟨trivial, (callsIn_wide.2 hF).mono ?_⟩
    rintro r w' ⟨rfl, n, rfl⟩
    gi_wp2_with fail
    refine ⟨trivial, (callsIn_wide.2 (awake12 _)).mono ?_⟩
    rintro r w9 ⟨rfl, hb9⟩
    have hb10 := Aside0.mk (Below.then_ (below_drewN' hba.out n) hb9)
    gi_wp2_with fail
    exact ⟨_, results_tmp rfl _ _ _, rfl, hb10.out⟩
end Go.Proofs.Ythgjckibnojnpaa
