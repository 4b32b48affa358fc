/- The statement PairTells: its walk. -/
import Derived.Test.YthgjckibnojnpaaPairM
import Derived.Test.YthgjckibnojnpaaRef14
import Derived.Test.YthgjckibnojnpaaRefFew
import Derived.Test.YthgjckibnojnpaaLit
set_option linter.unusedVariables false
set_option linter.unusedSimpArgs false
namespace Go.Proofs.Ythgjckibnojnpaa
open Go.RowKit Go.Proofs.YthgjckibnojnpaaW.PrintWords PA Pl

theorem seen_all (xs : List ByteArray) (p : Int × Int) (d : Nat) : Seen xs xs.length 0 p d ↔ d < far xs ∧ HasAt xs p d := by
  unfold Seen HasAt
  rw [List.take_length]
  simp
theorem nearV_is {xs : List ByteArray} {m : List ((Int × Int) × Int)} (h : Near xs xs.length 0 m) (p : Int × Int) : NearIs xs p (nearV xs m p) := by
  unfold nearV
  cases hg : getM p m with
  | none => exact .inl ⟨rfl, fun d hd hh => h.none_ p hg d ((seen_all ..).2 ⟨hd, hh⟩)⟩
  | some v =>
    obtain ⟨d, h1, h2, h3⟩ := h.some_ p v hg
    have h4 := (seen_all ..).1 h2
    exact .inr ⟨d, h1, h4.1, h4.2, fun d' hd' hh => by have := h3 d' ((seen_all ..).2 ⟨by omega, hh⟩); omega⟩
theorem near_len {xs : List ByteArray} {m : List ((Int × Int) × Int)} (h : Near xs xs.length 0 m) : m.length = (dd (pairs xs xs.length 0)).length := by
  rw [← h.keys, List.length_map]

def ex14 : List ByteArray := [⟨#[97, 98, 99]⟩, ⟨#[98, 99, 97]⟩]
theorem ex14_new : newE ex14 = 0 := newE_ok (by decide) (by decide) (by decide) (by decide) (by decide)
theorem ex14_srt : srt ex14 = ex14 := srt_id (by decide)
theorem ex14_far : far ex14 = 2 := by decide
theorem ex14_near (m : List ((Int × Int) × Int)) (h : Near ex14 ex14.length 0 m) : nearV ex14 m (98, 99) = 0 ∧ nearV ex14 m (99, 97) = 0 ∧ nearV ex14 m (97, 98) = 1 ∧ nearV ex14 m (120, 99) = 2 := by
  refine ⟨(nearV_is h _).unique (.inr ⟨0, rfl, by decide, ⟨⟨#[97, 98, 99]⟩, by simp [ex14], by decide⟩, fun d hd => by omega⟩), (nearV_is h _).unique (.inr ⟨0, rfl, by decide, ⟨⟨#[98, 99, 97]⟩, by simp [ex14], by decide⟩, fun d hd => by omega⟩),
    (nearV_is h _).unique (.inr ⟨1, rfl, by decide, ⟨⟨#[97, 98, 99]⟩, by simp [ex14], by decide⟩, fun d hd => ?_⟩), (nearV_is h _).unique (.inl ⟨by rw [ex14_far]; rfl, fun d hd => ?_⟩)⟩
  · obtain rfl : d = 0 := by omega
    unfold HasAt; decide
  · rw [ex14_far] at hd
    match d, hd with
    | 0, _ => unfold HasAt; decide
    | 1, _ => unfold HasAt; decide

set_option maxHeartbeats 1000000 in
theorem awake14 (w : World) : Calls Try.prog 16 #[] w fun e w' => e = .returned (.bool true) ∧ Below w.heap.size w w' := by
  have hC := litC Value.string (fun _ => rfl) w 9 ex14 (by decide)
  have hN := new_any _ 2 ex14 _ hC (by unfold Fit; decide)
  unfold NewPost at hN
  rw [ex14_new, if_pos rfl, ex14_srt] at hN
  clear hC
  go_enter Try.func16, Try.ntmps16
  go_wp2_with fail
  refine hN.mono ?_
  rintro e w1 ⟨v, rfl, hS, hb1⟩
  have hP := pairNew v ex14 w1 hS (by decide) (by unfold Fit; decide) (by decide)
  replace hb1 := Aside0.mk hb1
  clear hN hS
  go_wp2_with fail
  refine hP.mono ?_
  rintro e w2 ⟨g, m, rfl, hT, hb2⟩
  obtain ⟨n1, n2, n3, n4⟩ := ex14_near m hT.near
  have hn1 := pairNear g ex14 m 98 99 w2 hT
  have hn2 := pairNear g ex14 m 99 97 w2 hT
  have hn3 := pairNear g ex14 m 97 98 w2 hT
  have hn4 := pairNear g ex14 m 120 99 w2 hT
  rw [n1] at hn1
  rw [n2] at hn2
  rw [n3] at hn3
  rw [n4] at hn4
  replace hb2 := Aside0.mk hb2
  clear hP hT n1 n2 n3 n4
  go_wp2_with fail
  refine hn1.mono ?_
  rintro e w' ⟨rfl, rfl⟩
  go_wp2_with fail
  refine hn2.mono ?_
  rintro e w' ⟨rfl, rfl⟩
  go_wp2_with fail
  refine hn3.mono ?_
  rintro e w' ⟨rfl, rfl⟩
  go_wp2_with fail
  refine hn4.mono ?_
  rintro e w' ⟨rfl, rfl⟩
  go_wp2_with fail
  go_ret
  exact ⟨rfl, ((Below.refl _ w).alloc (Nat.le_refl _) _).trans ((hb1.out.mono (by simp)).trans (hb2.out.mono (by have := hb1.out.size; simp at this; omega)))⟩

/-! The set of texts, as both sides have it. -/
def theSet (l : List ByteArray) : List ByteArray := if newE l = 0 then srt l else []
theorem theSet_mem {l : List ByteArray} {s : ByteArray} (h : s ∈ theSet l) : newE l = 0 ∧ s ∈ l := by
  unfold theSet at h
  by_cases h0 : newE l = 0
  · rw [if_pos h0] at h
    exact ⟨h0, (srt_perm l).mem_iff.1 h⟩
  · rw [if_neg h0] at h; cases h
theorem theSet_length (l : List ByteArray) : (theSet l).length ≤ l.length := by
  unfold theSet
  split
  · rw [srt_length]; exact Nat.le_refl _
  · exact Nat.zero_le _
theorem theSet_tame (l : List ByteArray) : Tame (theSet l) := by
  by_cases h0 : newE l = 0
  · have h := newE_tame h0
    exact ⟨by have := theSet_length l; omega, fun s hs => h.2.2.1 s (theSet_mem hs).2⟩
  · have : theSet l = [] := by unfold theSet; rw [if_neg h0]
    rw [this]
    exact ⟨by simp, fun s hs => by cases hs⟩
theorem Tame.fit {xs : List ByteArray} (h : Tame xs) : Fit xs := fun s hs => by have := h.size s hs; omega
theorem newSet (A : Option Addr) (c : Nat) (xs : List ByteArray) (w : World) (hr : Kd.C Kd.string w A xs.length xs) (hf : Fit xs) :
    Calls Try.prog 17 #[.slice A xs.length c] w fun e w' => ∃ v, e = .returned (.tuple #[v, .int .i64 (newE xs)]) ∧ SetV w' v (theSet xs) ∧ Below w.heap.size w w' := new_any A c xs w hr hf
theorem refSet (A : Option Addr) (c : Nat) (xs : List ByteArray) (w : World) (hr : Kd.C Kd.string w A xs.length xs) (hc : xs.length ≤ c) :
    Calls Try.prog 18 #[.slice A xs.length c] w fun e w' => ∃ v, e = .returned (.tuple #[v, .int .i64 (newE xs)]) ∧ SlS w' v (theSet xs) ∧ Below w.heap.size w w' := by
  obtain ⟨k, hk⟩ := (newR_ev xs).rounds
  exact (juratref10_New.calls k A c xs _ _ w hr hc hk).mono fun _ _ ⟨v, h1, h2, h3⟩ => ⟨v, h1, Sl.of_R h2, h3⟩
theorem fewCall (A : Option Addr) (c : Nat) (xs : List ByteArray) (a b : Int) (w : World) (hr : Kd.C Kd.string w A xs.length xs) (hc : xs.length ≤ c) (hl : xs.length ≤ 9223372036854775806) :
    Calls Try.prog 15 #[.slice A xs.length c, .int .i64 a, .int .i64 b] w fun e w' => e = .returned (.bool (few xs a b)) ∧ ∃ n, w' = w.drewN n := by
  obtain ⟨k, hk⟩ := (few_ev xs a b hl).rounds
  exact (juratref09_Few.calls k A c xs a b _ w hr hc hk).mono fun _ _ ⟨h1, h2⟩ => ⟨h1, h2.out⟩

/-! What the references of this layer answer, in the table's own words. -/
section
variable {xs : List ByteArray} {m : List ((Int × Int) × Int)} (h : Tame xs) (hn : Near xs xs.length 0 m)
include h hn
theorem refNear (A : Option Addr) (c : Nat) (a b : Int) (w : World) (hr : Kd.C Kd.string w A xs.length xs) (hc : xs.length ≤ c) :
    Calls Try.prog 20 #[.slice A xs.length c, .int .u8 a, .int .u8 b] w fun e w' => e = .returned (.int .i64 (nearV xs m (a, b))) ∧ ∃ n, w' = w.drewN n := by
  obtain ⟨r, hr1, he⟩ := nearR_ev xs h a b
  obtain ⟨k, hk⟩ := he.rounds
  rw [hr1.unique (nearV_is hn (a, b))] at hk
  exact (juratref14_Near.calls k A c xs a b _ w hr hc hk).mono fun _ _ ⟨h1, h2⟩ => ⟨h1, h2.out⟩
theorem refLen (A : Option Addr) (c : Nat) (w : World) (hr : Kd.C Kd.string w A xs.length xs) (hc : xs.length ≤ c) :
    Calls Try.prog 25 #[.slice A xs.length c] w fun e w' => e = .returned (.int .i64 m.length) ∧ Below w.heap.size w w' := by
  obtain ⟨k, hk⟩ := (lenR_ev xs h).rounds
  rw [← near_len hn] at hk
  exact juratref14_Len.calls k A c xs _ w hr hc hk
end
theorem refFar {xs : List ByteArray} (h : Tame xs) (A : Option Addr) (c : Nat) (w : World) (hr : Kd.C Kd.string w A xs.length xs) (hc : xs.length ≤ c) :
    Calls Try.prog 23 #[.slice A xs.length c] w fun e w' => e = .returned (.int .i64 (far xs)) ∧ ∃ n, w' = w.drewN n := by
  obtain ⟨k, hk⟩ := (farR_ev xs h).rounds
  exact (juratref14_Far.calls k A c xs _ w hr hc hk).mono fun _ _ ⟨h1, h2⟩ => ⟨h1, h2.out⟩

theorem TabAt.below {w w1 : World} {g : Nat} {xs : List ByteArray} {m : List ((Int × Int) × Int)} (h : TabAt w g xs m) (hb : Below w.heap.size w w1) : TabAt w1 g xs m := by
  obtain ⟨⟨q, h1, h2⟩, h3⟩ := h
  exact ⟨⟨q, h1.below hb h1.lt, h2.below hb⟩, h3⟩
theorem few_iff {xs : List ByteArray} {a b : Int} : few xs a b = true ↔ (xs.length : Int) ≤ a ∧ ∀ s ∈ xs, (s.size : Int) ≤ b := by
  simp [few]

set_option maxHeartbeats 2000000 in
theorem pairTells_walk (A : Option Addr) (c : Nat) (l : List ByteArray) (a b : Int) (s : ByteArray) (e : Int) (w : World) (hr : Kd.C Kd.string w A l.length l) (hc : l.length ≤ c) (hs : s.size ≤ 140737488351232) (hl : l.length ≤ 9223372036854775806) :
    Calls Try.prog 3 #[.slice A l.length c, .int .u8 a, .int .u8 b, .string s, .int .i64 e] w fun r w' => r = .returned (.bool true) ∧ Below w.heap.size w w' := by
  have hF := fewCall A c l 12 20 w hr hc hl
  cases hfew : few l 12 20 with
  | false =>
    rw [hfew] at hF
    replace hfew := Lib.hid hfew
    clear hr
    go_enter Try.func3, Try.ntmps3
    go_wp2_with (first
      | (go_at_call 15; refine hF.mono ?_; rintro r w' ⟨rfl, n, rfl⟩)
      | (go_at_call 16; refine (awake14 _).mono ?_; rintro r w' ⟨rfl, hb⟩))
    replace hb := Aside0.mk hb
    go_ret
    exact ⟨rfl, (below_drewN' (Below.refl _ _) n).trans hb.out⟩
  | true =>
    rw [hfew] at hF
    obtain ⟨hl12, hs20⟩ := few_iff.1 hfew
    replace hfew := Lib.hid hfew
    by_cases hs100 : 100 < s.size
    · have d1 : decide (100 < (s.size : Int)) = true := by simp; omega
      clear hr
      go_enter Try.func3, Try.ntmps3
      go_wp2_with (first
        | (go_at_call 15; refine hF.mono ?_; rintro r w' ⟨rfl, n, rfl⟩)
        | (go_at_call 16; refine (awake14 _).mono ?_; rintro r w' ⟨rfl, hb⟩))
      replace hb := Aside0.mk hb
      go_ret
      exact ⟨rfl, (below_drewN' (Below.refl _ _) n).trans hb.out⟩
    · have d1 : decide (100 < (s.size : Int)) = false := by simp; omega
      have hf : Fit l := fun s hs => by have := hs20 s hs; omega
      have hT := theSet_tame l
      have hTl : (theSet l).length ≤ 12 := by have := theSet_length l; omega
      replace hr := Aside0.mk hr
      go_enter Try.func3, Try.ntmps3
      go_wp2_with (go_at_call 15; refine hF.mono ?_; rintro r w' ⟨rfl, n, rfl⟩)
      have hr0 : Kd.C Kd.string (w.drewN n) A l.length l := Kd.C_below hr.out (below_drewN' (Below.refl _ _) n)
      have hb0 : Below w.heap.size w (w.drewN n) := below_drewN' (Below.refl _ _) n
      refine (newSet A c l _ hr0 hf).mono ?_
      rintro r w1 ⟨v, rfl, hS, hb1⟩
      have hb01 : Below w.heap.size w w1 := hb0.trans hb1
      have hr1 := Kd.C_below hr0 hb1
      replace hS := Aside0.mk hS
      replace hr1 := Aside0.mk hr1
      replace hb01 := Aside0.mk hb01
      clear hr0 hb1 hb0 hF hr
      go_wp2_with fail
      refine (refSet A c l _ hr1.out hc).mono ?_
      rintro r w2 ⟨v2, rfl, hL, hb2⟩
      have hS2 := Aside0.mk (hS.out.below hb2)
      have hb02 := Aside0.mk (hb01.out.trans (hb2.mono hb01.out.size))
      replace hL := Aside0.mk hL
      clear hS hb2 hb01 hr1
      go_wp2_with fail
      refine (pairNew v (theSet l) _ hS2.out (by omega) hT.fit (fun s hs => (hT.size s hs).1)).mono ?_
      rintro r w3 ⟨g, m, rfl, hTab, hb3⟩
      have hL3 := hL.out.below hb3
      have hb03 := Aside0.mk (hb02.out.trans (hb3.mono hb02.out.size))
      clear hL hb02 hb3 hS2
      obtain ⟨A2, c2, rfl, hc2, hC2⟩ := hL3
      have hnear := Aside0.mk hTab.near
      have hTabW : ∀ W, Below w3.heap.size w3 W → TabAt W g (theSet l) m := fun W hb => hTab.below hb
      have hCW : ∀ W, Below w3.heap.size w3 W → Kd.C Kd.string W A2 (theSet l).length (theSet l) := fun W hb => Kd.C_below hC2 hb
      have HB := Aside0.mk (Below.refl w3.heap.size w3)
      have HT := Aside0.mk hTabW
      have HC := Aside0.mk hCW
      replace hT := Aside0.mk hT
      clear hTab hC2 hTabW hCW
      generalize theSet l = X at *
      by_cases he2 : 2 ≤ e
      · by_cases he3 : e ≤ s.size
        · have H : clearV X m s e = nearV X m (bt s (e - 2), bt s (e - 1)) := by unfold clearV; rw [if_pos ⟨he2, he3⟩]
          obtain ⟨i1, hi1, hi1l⟩ : ∃ i1 : Nat, e - 2 = (i1 : Int) ∧ i1 < s.size := ⟨(e - 2).toNat, by omega, by omega⟩
          obtain ⟨i2, hi2, hi2l⟩ : ∃ i2 : Nat, e - 1 = (i2 : Int) ∧ i2 < s.size := ⟨(e - 1).toNat, by omega, by omega⟩
          have e1 : IntKind.i64.wrap (e - 2) = e - 2 := by rw [IntKind.wrap_i64]; omega
          have e2 : IntKind.i64.wrap (e - 1) = e - 1 := by rw [IntKind.wrap_i64]; omega
          have hn := fun k => refNear hT.out hnear.out A2 c2 (bt s (e - 2)) (bt s (e - 1)) (w3.drewN k) (HC.out _ (below_drewN' (Below.refl _ _) k)) hc2
          rw [← H, hi1, hi2, ← bt_at s i1 (by simpa using hi1l), ← bt_at s i2 (by simpa using hi2l)] at hn
          simp only [Int.toNat_natCast] at hn
          rw [hi1] at e1
          rw [hi2] at e2
          have d3 : decide (2 ≤ e) = true := by simpa using he2
          have d4 : decide (e ≤ (s.size : Int)) = true := by simpa using he3
          clear H
          go_wp2
          go_quiet ((go_at_call 20; refine Calls.quiet_of (hn _)))
          clear hn e1 e2 hi1 hi2
          go_wp2_with fail
          refine (pairNear g X m a b _ (HT.out _ (by repeat (first | exact HB.out | apply below_drewN')))).mono ?_
          rintro r w' ⟨rfl, rfl⟩
          go_wp2_with fail
          refine (refNear hT.out hnear.out A2 c2 a b _ (HC.out _ (by repeat (first | exact HB.out | apply below_drewN'))) hc2).mono ?_
          rintro r w' ⟨rfl, n1, rfl⟩
          go_wp2_with fail
          refine (pairFar g X m _ (HT.out _ (by repeat (first | exact HB.out | apply below_drewN')))).mono ?_
          rintro r w' ⟨rfl, rfl⟩
          go_wp2_with fail
          refine (refFar hT.out A2 c2 _ (HC.out _ (by repeat (first | exact HB.out | apply below_drewN'))) hc2).mono ?_
          rintro r w' ⟨rfl, n2, rfl⟩
          go_wp2_with fail
          refine (pairLen g X m _ (HT.out _ (by repeat (first | exact HB.out | apply below_drewN')))).mono ?_
          rintro r w' ⟨rfl, rfl⟩
          go_wp2_with fail
          refine (refLen hT.out hnear.out A2 c2 _ (HC.out _ (by repeat (first | exact HB.out | apply below_drewN'))) hc2).mono ?_
          rintro r w4 ⟨rfl, hb4⟩
          have HB4 : Below w3.heap.size w3 w4 := (show Below w3.heap.size w3 _ from (by repeat (first | exact HB.out | apply below_drewN'))).trans (hb4.mono (show Below w3.heap.size w3 _ from (by repeat (first | exact HB.out | apply below_drewN'))).size)
          clear HB hb4
          have HB := Aside0.mk HB4
          clear HB4
          go_wp2_with fail
          refine (pairClear g X m s e _ (HT.out _ (by repeat (first | exact HB.out | apply below_drewN'))) hs).mono ?_
          rintro r w' ⟨rfl, n3, rfl⟩
          go_wp2_with fail
          refine (pairNearNil a b _).mono ?_
          rintro r w' ⟨rfl, rfl⟩
          go_wp2_with fail
          refine (pairFarNil _).mono ?_
          rintro r w' ⟨rfl, rfl⟩
          go_wp2_with fail
          refine (pairLenNil _).mono ?_
          rintro r w' ⟨rfl, rfl⟩
          go_wp2_with fail
          refine (pairClearNil s e _).mono ?_
          rintro r w' ⟨rfl, rfl⟩
          go_wp2_with fail
          refine (awake14 _).mono ?_
          rintro r w5 ⟨rfl, hb5⟩
          have HB5 : Below w3.heap.size w3 w5 := (show Below w3.heap.size w3 _ from (by repeat (first | exact HB.out | apply below_drewN'))).trans (hb5.mono (show Below w3.heap.size w3 _ from (by repeat (first | exact HB.out | apply below_drewN'))).size)
          replace HB5 := Aside0.mk HB5
          clear hb5
          go_wp2_with fail
          go_ret
          exact ⟨rfl, hb03.out.trans (HB5.out.mono hb03.out.size)⟩
        · have H : clearV X m s e = 0 := by unfold clearV; rw [if_neg (fun h => he3 h.2)]
          replace H := Lib.hid H
          have d3 : decide (2 ≤ e) = true := by simpa using he2
          have d4 : decide (e ≤ (s.size : Int)) = false := by simpa using he3
          go_wp2_with fail
          refine (pairNear g X m a b _ (HT.out _ (by repeat (first | exact HB.out | apply below_drewN')))).mono ?_
          rintro r w' ⟨rfl, rfl⟩
          go_wp2_with fail
          refine (refNear hT.out hnear.out A2 c2 a b _ (HC.out _ (by repeat (first | exact HB.out | apply below_drewN'))) hc2).mono ?_
          rintro r w' ⟨rfl, n1, rfl⟩
          go_wp2_with fail
          refine (pairFar g X m _ (HT.out _ (by repeat (first | exact HB.out | apply below_drewN')))).mono ?_
          rintro r w' ⟨rfl, rfl⟩
          go_wp2_with fail
          refine (refFar hT.out A2 c2 _ (HC.out _ (by repeat (first | exact HB.out | apply below_drewN'))) hc2).mono ?_
          rintro r w' ⟨rfl, n2, rfl⟩
          go_wp2_with fail
          refine (pairLen g X m _ (HT.out _ (by repeat (first | exact HB.out | apply below_drewN')))).mono ?_
          rintro r w' ⟨rfl, rfl⟩
          go_wp2_with fail
          refine (refLen hT.out hnear.out A2 c2 _ (HC.out _ (by repeat (first | exact HB.out | apply below_drewN'))) hc2).mono ?_
          rintro r w4 ⟨rfl, hb4⟩
          have HB4 : Below w3.heap.size w3 w4 := (show Below w3.heap.size w3 _ from (by repeat (first | exact HB.out | apply below_drewN'))).trans (hb4.mono (show Below w3.heap.size w3 _ from (by repeat (first | exact HB.out | apply below_drewN'))).size)
          clear HB hb4
          have HB := Aside0.mk HB4
          clear HB4
          go_wp2_with fail
          refine (pairClear g X m s e _ (HT.out _ (by repeat (first | exact HB.out | apply below_drewN'))) hs).mono ?_
          rw [H.out]
          rintro r w' ⟨rfl, n3, rfl⟩
          go_wp2_with fail
          refine (pairNearNil a b _).mono ?_
          rintro r w' ⟨rfl, rfl⟩
          go_wp2_with fail
          refine (pairFarNil _).mono ?_
          rintro r w' ⟨rfl, rfl⟩
          go_wp2_with fail
          refine (pairLenNil _).mono ?_
          rintro r w' ⟨rfl, rfl⟩
          go_wp2_with fail
          refine (pairClearNil s e _).mono ?_
          rintro r w' ⟨rfl, rfl⟩
          go_wp2_with fail
          refine (awake14 _).mono ?_
          rintro r w5 ⟨rfl, hb5⟩
          have HB5 : Below w3.heap.size w3 w5 := (show Below w3.heap.size w3 _ from (by repeat (first | exact HB.out | apply below_drewN'))).trans (hb5.mono (show Below w3.heap.size w3 _ from (by repeat (first | exact HB.out | apply below_drewN'))).size)
          replace HB5 := Aside0.mk HB5
          clear hb5
          go_wp2_with fail
          go_ret
          exact ⟨rfl, hb03.out.trans (HB5.out.mono hb03.out.size)⟩
      · have H : clearV X m s e = 0 := by unfold clearV; rw [if_neg (fun h => he2 h.1)]
        replace H := Lib.hid H
        have d3 : decide (2 ≤ e) = false := by simpa using he2
        go_wp2_with fail
        refine (pairNear g X m a b _ (HT.out _ (by repeat (first | exact HB.out | apply below_drewN')))).mono ?_
        rintro r w' ⟨rfl, rfl⟩
        go_wp2_with fail
        refine (refNear hT.out hnear.out A2 c2 a b _ (HC.out _ (by repeat (first | exact HB.out | apply below_drewN'))) hc2).mono ?_
        rintro r w' ⟨rfl, n1, rfl⟩
        go_wp2_with fail
        refine (pairFar g X m _ (HT.out _ (by repeat (first | exact HB.out | apply below_drewN')))).mono ?_
        rintro r w' ⟨rfl, rfl⟩
        go_wp2_with fail
        refine (refFar hT.out A2 c2 _ (HC.out _ (by repeat (first | exact HB.out | apply below_drewN'))) hc2).mono ?_
        rintro r w' ⟨rfl, n2, rfl⟩
        go_wp2_with fail
        refine (pairLen g X m _ (HT.out _ (by repeat (first | exact HB.out | apply below_drewN')))).mono ?_
        rintro r w' ⟨rfl, rfl⟩
        go_wp2_with fail
        refine (refLen hT.out hnear.out A2 c2 _ (HC.out _ (by repeat (first | exact HB.out | apply below_drewN'))) hc2).mono ?_
        rintro r w4 ⟨rfl, hb4⟩
        have HB4 : Below w3.heap.size w3 w4 := (show Below w3.heap.size w3 _ from (by repeat (first | exact HB.out | apply below_drewN'))).trans (hb4.mono (show Below w3.heap.size w3 _ from (by repeat (first | exact HB.out | apply below_drewN'))).size)
        clear HB hb4
        have HB := Aside0.mk HB4
        clear HB4
        go_wp2_with fail
        refine (pairClear g X m s e _ (HT.out _ (by repeat (first | exact HB.out | apply below_drewN'))) hs).mono ?_
        rw [H.out]
        rintro r w' ⟨rfl, n3, rfl⟩
        go_wp2_with fail
        refine (pairNearNil a b _).mono ?_
        rintro r w' ⟨rfl, rfl⟩
        go_wp2_with fail
        refine (pairFarNil _).mono ?_
        rintro r w' ⟨rfl, rfl⟩
        go_wp2_with fail
        refine (pairLenNil _).mono ?_
        rintro r w' ⟨rfl, rfl⟩
        go_wp2_with fail
        refine (pairClearNil s e _).mono ?_
        rintro r w' ⟨rfl, rfl⟩
        go_wp2_with fail
        refine (awake14 _).mono ?_
        rintro r w5 ⟨rfl, hb5⟩
        have HB5 : Below w3.heap.size w3 w5 := (show Below w3.heap.size w3 _ from (by repeat (first | exact HB.out | apply below_drewN'))).trans (hb5.mono (show Below w3.heap.size w3 _ from (by repeat (first | exact HB.out | apply below_drewN'))).size)
        replace HB5 := Aside0.mk HB5
        clear hb5
        go_wp2_with fail
        go_ret
        exact ⟨rfl, hb03.out.trans (HB5.out.mono hb03.out.size)⟩
theorem pairTells_row (A : Option Addr) (c : Nat) (l : List ByteArray) (a b : Int) (s : ByteArray) (e : Int) (w : World) (hr : Kd.C Kd.string w A l.length l) (hc : l.length ≤ c) (hl : l.length * 16 ≤ 140737488351232) (ha : (Lit.int .u8 a).wf = true) (hb : (Lit.int .u8 b).wf = true) (hs : s.size ≤ 140737488351232) (he : (Lit.int .i64 e).wf = true) :
    Calls Try.prog 3 #[.slice A l.length c, .int .u8 a, .int .u8 b, .string s, .int .i64 e] w fun r w' => r = .returned (.bool true) ∧ Below w.heap.size w w' :=
  pairTells_walk A c l a b s e w hr hc hs (by omega)
end Go.Proofs.Ythgjckibnojnpaa
