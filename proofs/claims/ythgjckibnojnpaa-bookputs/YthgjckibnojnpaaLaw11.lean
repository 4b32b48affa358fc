/- The statement BookPuts: its walk. -/
import Derived.Test.YthgjckibnojnpaaRef11
import Derived.OpenShut
set_option linter.unusedVariables false
set_option linter.unusedSimpArgs false
namespace Go.Proofs.Ythgjckibnojnpaa
open Go.RowKit Go.Proofs.YthgjckibnojnpaaW.PrintWords PA Pl

set_option maxHeartbeats 1000000 in
theorem bookPutNil (w : World) : Calls Try.prog 37 #[.pointer none] w fun e w' => e = .returned (.string ByteArray.empty) ∧ w = w' := by
  go_enter Try.func37, Try.ntmps37
  go_wp2
  go_ret
  exact ⟨rfl, rfl⟩
set_option maxHeartbeats 1000000 in
theorem refPut11Nil (A : Option Addr) (c : Nat) (w : World) : Calls Try.prog 38 #[.slice A 0 c] w fun e w' => e = .returned (.string ByteArray.empty) ∧ w = w' := by
  go_enter Try.func38, Try.ntmps38
  go_wp2
  go_ret
  exact ⟨rfl, rfl⟩
/-- The bytes of any set's texts. -/
def bookV (xs : List ByteArray) : ByteArray := if xs = [] then ByteArray.empty else ⟨(bookTo xs xs.length).toArray⟩
theorem bookPutAny (v : Value) (xs : List ByteArray) (w : World) (h : SetV w v xs) (hT : Tame xs) :
    Calls Try.prog 37 #[v] w fun e w' => e = .returned (.string (bookV xs)) ∧ Below w.heap.size w w' := by
  by_cases h0 : xs = []
  · rcases h with ⟨rfl, _⟩ | ⟨_, _, _, h⟩
    · refine (bookPutNil w).mono ?_
      rintro e w' ⟨rfl, rfl⟩
      exact ⟨by rw [bookV, if_pos h0], Below.refl _ _⟩
    · exact absurd h0 h
  · have := bookPut v xs w h h0 hT.len (fun s hs => (hT.size s hs).2)
    rw [bookV, if_neg h0]
    exact this
theorem refPutAny (A : Option Addr) (c : Nat) (xs : List ByteArray) (w : World) (hr : Kd.C Kd.string w A xs.length xs) (hT : Tame xs) :
    Calls Try.prog 38 #[.slice A xs.length c] w fun e w' => e = .returned (.string (bookV xs)) ∧ Below w.heap.size w w' := by
  by_cases h0 : xs = []
  · subst h0
    refine (refPut11Nil A c w).mono ?_
    rintro e w' ⟨rfl, rfl⟩
    exact ⟨by rw [bookV, if_pos rfl], Below.refl _ _⟩
  · rw [bookV, if_neg h0]
    exact refPut11 A c xs w hr h0 hT.len (fun s hs => (hT.size s hs).2)

def ex11 : List ByteArray := [⟨#[97, 98]⟩, ⟨#[97]⟩]
def ex11s : List ByteArray := [⟨#[97]⟩, ⟨#[97, 98]⟩]
theorem ex11_new : newE ex11 = 0 := newE_ok (by decide) (by decide) (by decide) (by decide) (by decide)
theorem ex11_srt : srt ex11 = ex11s := (srt_unique (by decide) (by decide)).symm
theorem ex11_tame : Tame ex11s := ⟨by decide, by decide⟩
theorem ex11_book : bookV ex11s = ⟨#[106, 117, 114, 97, 116, 1, 2, 0, 1, 97, 1, 1, 98]⟩ := by
  have h : bookTo ex11s 2 = [106, 117, 114, 97, 116, 1, 2, 0, 1, 97, 1, 1, 98] := by decide +kernel
  rw [bookV, if_neg (by decide), show ex11s.length = 2 from rfl, h]

set_option maxHeartbeats 1000000 in
theorem awake11 (w : World) : Calls Try.prog 36 #[] w fun e w' => e = .returned (.bool true) ∧ Below w.heap.size w w' := by
  have hC := litC Value.string (fun _ => rfl) w 9 ex11 (by decide)
  have hN := new_any _ 2 ex11 _ hC (by unfold Fit; decide)
  unfold NewPost at hN
  rw [ex11_new, if_pos rfl, ex11_srt] at hN
  clear hC
  go_enter Try.func36, Try.ntmps36
  go_wp2_with fail
  refine hN.mono ?_
  rintro e w1 ⟨v, rfl, hS, hb1⟩
  have hP := bookPutAny v ex11s w1 hS ex11_tame
  rw [ex11_book] at hP
  replace hb1 := Aside0.mk hb1
  clear hN hS
  go_wp2_with fail
  refine hP.mono ?_
  rintro e w2 ⟨rfl, hb2⟩
  replace hb2 := Aside0.mk hb2
  go_wp2_with fail
  refine (bookPutNil _).mono ?_
  rintro e w' ⟨rfl, rfl⟩
  go_wp2_with fail
  go_ret
  refine ⟨rfl, ?_⟩
  have k0 : Below w.heap.size w _ := (Below.refl _ w).alloc (Nat.le_refl _) (.cells #[.string ⟨#[97, 98]⟩, .string ⟨#[97]⟩] 9)
  exact Below.then_ (Below.then_ k0 hb1.out) hb2.out

set_option maxHeartbeats 2000000 in
theorem bookPuts_walk (A : Option Addr) (c : Nat) (l : List ByteArray) (w : World) (hr : Kd.C Kd.string w A l.length l) (hc : l.length ≤ c) (hl : l.length ≤ 9223372036854775806) :
    Calls Try.prog 5 #[.slice A l.length c] w fun r w' => r = .returned (.bool true) ∧ Below w.heap.size w w' := by
  have hF := fewCall A c l 20 50 w hr hc hl
  cases hfew : few l 20 50 with
  | false =>
    rw [hfew] at hF
    replace hfew := Lib.hid hfew
    clear hr
    go_enter Try.func5, Try.ntmps5
    go_wp2_with (first
      | (go_at_call 15; refine hF.mono ?_; rintro r w' ⟨rfl, n, rfl⟩)
      | (go_at_call 36; refine (awake11 _).mono ?_; rintro r w' ⟨rfl, hb⟩))
    replace hb := Aside0.mk hb
    go_ret
    exact ⟨rfl, (below_drewN' (Below.refl _ _) n).trans hb.out⟩
  | true =>
    rw [hfew] at hF
    obtain ⟨hl12, hs20⟩ := few_iff.1 hfew
    replace hfew := Lib.hid hfew
    have hf : Fit l := fun s hs => by have := hs20 s hs; omega
    have hT := theSet_tame l
    replace hr := Aside0.mk hr
    go_enter Try.func5, Try.ntmps5
    go_wp2_with (go_at_call 15; refine hF.mono ?_; rintro r w' ⟨rfl, n, rfl⟩)
    have hr0 : Kd.C Kd.string (w.drewN n) A l.length l := Kd.C_below hr.out (below_drewN' (Below.refl _ _) n)
    have hb0 : Below w.heap.size w (w.drewN n) := below_drewN' (Below.refl _ _) n
    refine (newSet A c l _ hr0 hf).mono ?_
    rintro r w1 ⟨v, rfl, hS, hb1⟩
    have hb01 : Below w.heap.size w w1 := hb0.trans hb1
    have hr1 := Kd.C_below hr0 hb1
    replace hS := Aside0.mk hS
    replace hr1 := Aside0.mk hr1
    replace hb01 := Aside0.mk hb01
    clear hr0 hb1 hb0 hF hr
    go_wp2_with fail
    refine (refSet A c l _ hr1.out hc).mono ?_
    rintro r w2 ⟨v2, rfl, hL, hb2⟩
    have hS2 := Aside0.mk (hS.out.below hb2)
    have hb02 := Aside0.mk (Below.then_ hb01.out hb2)
    replace hL := Aside0.mk hL
    replace hT := Aside0.mk hT
    clear hS hb2 hb01 hr1
    generalize newE l = E
    generalize theSet l = X at *
    go_wp2_with fail
    refine (bookPutAny v X _ hS2.out hT.out).mono ?_
    rintro r w3 ⟨rfl, hb3⟩
    obtain ⟨A2, c2, rfl, hc2, hC2⟩ := hL.out.below hb3
    have hb03 := Aside0.mk (Below.then_ hb02.out hb3)
    replace hC2 := Aside0.mk hC2
    clear hL hb02 hb3 hS2
    go_wp2_with fail
    refine (refPutAny A2 c2 X _ hC2.out hT.out).mono ?_
    rintro r w4 ⟨rfl, hb4⟩
    have hb04 := Aside0.mk (Below.then_ hb03.out hb4)
    clear hb03 hb4
    generalize bookV X = S
    go_wp2_with fail
    refine (awake11 _).mono ?_
    rintro r w5 ⟨rfl, hb5⟩
    replace hb5 := Aside0.mk (Below.then_ hb04.out hb5)
    clear hb04
    go_wp2_with fail
    go_ret
    exact ⟨rfl, hb5.out⟩
theorem bookPuts_row (A : Option Addr) (c : Nat) (l : List ByteArray) (w : World) (hr : Kd.C Kd.string w A l.length l) (hc : l.length ≤ c) (hl : l.length * 16 ≤ 140737488351232) :
    Calls Try.prog 5 #[.slice A l.length c] w fun r w' => r = .returned (.bool true) ∧ Below w.heap.size w w' :=
  bookPuts_walk A c l w hr hc (by omega)
end Go.Proofs.Ythgjckibnojnpaa
