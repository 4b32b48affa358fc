/- The statement BucketTells: its walk. -/
import Derived.Test.YthgjckibnojnpaaRef12
import Derived.Test.YthgjckibnojnpaaBuckOf
import Derived.OpenShut
set_option linter.unusedVariables false
set_option linter.unusedSimpArgs false
namespace Go.Proofs.Ythgjckibnojnpaa
open Go.RowKit Go.Proofs.YthgjckibnojnpaaW.PrintWords PA Pl

def ex12 : List ByteArray := [⟨#[97, 98]⟩, ⟨#[98]⟩, ⟨#[99]⟩]
theorem ex12_new : newE ex12 = 0 := newE_ok (by decide) (by decide) (by decide) (by decide) (by decide)
theorem ex12_srt : srt ex12 = ex12 := srt_id (by decide)
theorem ex12_ids : idsTo ex12 ex12.length (98 : Nat) = [0, 1] := by decide +kernel
theorem ex12_mn : mn (lensTo ex12 ex12.length (98 : Nat)) = 1 := by decide +kernel
theorem ex12_bytes : strOfNums (bytesTo ex12 256) = ⟨#[98, 99]⟩ := by
  have : bytesTo ex12 256 = [98, 99] := by decide +kernel
  rw [this]
  rfl

set_option maxHeartbeats 1000000 in
theorem awake12 (w : World) : Calls Try.prog 27 #[] w fun e w' => e = .returned (.bool true) ∧ Below w.heap.size w w' := by
  have hC := litC Value.string (fun _ => rfl) w 9 ex12 (by decide)
  have hN := new_any _ 3 ex12 _ hC (by unfold Fit; decide)
  unfold NewPost at hN
  rw [ex12_new, if_pos rfl, ex12_srt] at hN
  clear hC
  go_enter Try.func27, Try.ntmps27
  go_wp2_with fail
  refine hN.mono ?_
  rintro e w1 ⟨v, rfl, hS, hb1⟩
  have hP := buckNew v ex12 w1 hS (by decide) (by unfold Fit; decide) (by decide)
  replace hb1 := Aside0.mk hb1
  clear hN hS
  go_wp2_with fail
  refine hP.mono ?_
  rintro e w2 ⟨g, rfl, hT, hb2⟩
  have hT2 := hT.at_
  have h1 := buckOf g ex12 98 (by decide) (by decide) w2 hT2
  rw [ex12_ids] at h1
  replace hb2 := Aside0.mk hb2
  replace hT2 := Aside0.mk hT2
  clear hP hT
  go_wp2_with fail
  refine h1.mono ?_
  rintro e w3 ⟨v3, rfl, hR3, hb3⟩
  obtain ⟨A3, c3, rfl, hc3, hC3⟩ := Kd.R_reads hR3
  have hT3 := Aside0.mk (hT2.out.below hb3)
  have hL := litC (Value.int .i64) (fun _ => rfl) w3 3 [0, 1] (by decide)
  have hs := sameCall A3 c3 [0, 1] (some ⟨w3.heap.size, 0, none⟩) 2 [0, 1] _ (Kd.C_below hC3 ((Below.refl w3.heap.size w3).alloc (Nat.le_refl _) _)) hc3 hL (by decide) (by decide)
  have hb23 := Aside0.mk hb3
  clear h1 hR3 hb3 hC3 hL hT2
  go_wp2_with fail
  refine hs.mono ?_
  rintro e w' ⟨rfl, n, rfl⟩
  have hb4 : Below w3.heap.size w3 ((w3.alloc (.cells #[.int .i64 0, .int .i64 1] 3)).drewN n) := below_drewN' ((Below.refl w3.heap.size w3).alloc (Nat.le_refl _) _) n
  have hl := buckLeast g ex12 98 (by decide) _ (hT3.out.below hb4)
  rw [ex12_mn] at hl
  clear hs
  go_wp2_with fail
  refine hl.mono ?_
  rintro e w' ⟨rfl, rfl⟩
  have hy := buckBytes g ex12 _ (hT3.out.below hb4)
  rw [ex12_bytes] at hy
  replace hb4 := Aside0.mk hb4
  clear hl hT3
  go_wp2_with fail
  refine hy.mono ?_
  rintro e w5 ⟨rfl, hb5⟩
  replace hb5 := Aside0.mk hb5
  clear hy
  go_wp2_with fail
  go_ret
  refine ⟨rfl, ?_⟩
  have k0 : Below w.heap.size w _ := (Below.refl _ w).alloc (Nat.le_refl _) (.cells #[.string ⟨#[97, 98]⟩, .string ⟨#[98]⟩, .string ⟨#[99]⟩] 9)
  exact Below.then_ (Below.then_ (Below.then_ (Below.then_ k0 hb1.out) hb2.out) hb23.out) (Below.then_ hb4.out hb5.out)

set_option maxHeartbeats 2000000 in
theorem bucketTells_walk (A : Option Addr) (c : Nat) (l : List ByteArray) (b : Nat) (hb256 : b < 256) (w : World) (hr : Kd.C Kd.string w A l.length l) (hc : l.length ≤ c) (hl : l.length ≤ 9223372036854775806) :
    Calls Try.prog 4 #[.slice A l.length c, .int .u8 b] w fun r w' => r = .returned (.bool true) ∧ Below w.heap.size w w' := by
  have hF := fewCall A c l 20 50 w hr hc hl
  cases hfew : few l 20 50 with
  | false =>
    rw [hfew] at hF
    replace hfew := Lib.hid hfew
    clear hr
    go_enter Try.func4, Try.ntmps4
    go_wp2_with (first
      | (go_at_call 15; refine hF.mono ?_; rintro r w' ⟨rfl, n, rfl⟩)
      | (go_at_call 27; refine (awake12 _).mono ?_; rintro r w' ⟨rfl, hb⟩))
    replace hb := Aside0.mk hb
    go_ret
    exact ⟨rfl, (below_drewN' (Below.refl _ _) n).trans hb.out⟩
  | true =>
    rw [hfew] at hF
    obtain ⟨hl12, hs20⟩ := few_iff.1 hfew
    replace hfew := Lib.hid hfew
    have hf : Fit l := fun s hs => by have := hs20 s hs; omega
    have hT := theSet_tame l
    have hTl : (theSet l).length ≤ 20 := by have := theSet_length l; omega
    replace hr := Aside0.mk hr
    go_enter Try.func4, Try.ntmps4
    go_wp2_with (go_at_call 15; refine hF.mono ?_; rintro r w' ⟨rfl, n, rfl⟩)
    have hr0 : Kd.C Kd.string (w.drewN n) A l.length l := Kd.C_below hr.out (below_drewN' (Below.refl _ _) n)
    have hb0 : Below w.heap.size w (w.drewN n) := below_drewN' (Below.refl _ _) n
    refine (newSet A c l _ hr0 hf).mono ?_
    rintro r w1 ⟨v, rfl, hS, hb1⟩
    have hb01 : Below w.heap.size w w1 := hb0.trans hb1
    have hr1 := Kd.C_below hr0 hb1
    replace hS := Aside0.mk hS
    replace hr1 := Aside0.mk hr1
    replace hb01 := Aside0.mk hb01
    clear hr0 hb1 hb0 hF hr
    go_wp2_with fail
    refine (refSet A c l _ hr1.out hc).mono ?_
    rintro r w2 ⟨v2, rfl, hL, hb2⟩
    have hS2 := Aside0.mk (hS.out.below hb2)
    have hb02 := Aside0.mk (Below.then_ hb01.out hb2)
    replace hL := Aside0.mk hL
    clear hS hb2 hb01 hr1
    generalize newE l = E
    go_wp2_with fail
    refine (buckNew v (theSet l) _ hS2.out (by omega) hT.fit (fun s hs => (hT.size s hs).1)).mono ?_
    rintro r w3 ⟨g, rfl, hK, hb3⟩
    have hL3 := hL.out.below hb3
    have hb03 := Aside0.mk (Below.then_ hb02.out hb3)
    have hK3 := hK.at_
    clear hL hb02 hb3 hS2 hK
    obtain ⟨A2, c2, rfl, hc2, hC2⟩ := hL3
    have hKW : ∀ W, Below w3.heap.size w3 W → BukAt W g (theSet l) := fun W hb => hK3.below hb
    have hCW : ∀ W, Below w3.heap.size w3 W → Kd.C Kd.string W A2 (theSet l).length (theSet l) := fun W hb => Kd.C_below hC2 hb
    have HB := Aside0.mk (Below.refl w3.heap.size w3)
    have HK := Aside0.mk hKW
    have HC := Aside0.mk hCW
    replace hT := Aside0.mk hT
    clear hK3 hC2 hKW hCW
    generalize theSet l = X at *
    have hI := idsTo_le X X.length b
    go_wp2_with fail
    refine (buckOf g X b hb256 (by omega) _ (HK.out _ HB.out)).mono ?_
    rintro r w4 ⟨v4, rfl, hR4, hb4⟩
    obtain ⟨A4, c4, rfl, hc4, hC4⟩ := Kd.R_reads hR4
    replace HB := Aside0.mk (Below.then_ HB.out hb4)
    replace hC4 := Aside0.mk hC4
    clear hR4 hb4
    go_wp2_with fail
    refine (refOf12 hT.out A2 c2 b _ (HC.out _ HB.out) hc2).mono ?_
    rintro r w5 ⟨v5, rfl, hR5, hb5⟩
    obtain ⟨A5, c5, rfl, hc5, hC5⟩ := hR5
    replace HB := Aside0.mk (Below.then_ HB.out hb5)
    replace hC4 := Aside0.mk (Kd.C_below hC4.out hb5)
    replace hC5 := Aside0.mk hC5
    clear hb5
    go_wp2_with fail
    refine (sameCall A4 c4 _ A5 c5 _ _ hC4.out hc4 hC5.out hc5 (by omega)).mono ?_
    rw [decide_eq_true rfl]
    rintro r w' ⟨rfl, n6, rfl⟩
    replace HB := Aside0.mk (below_drewN' HB.out n6)
    generalize w5.drewN n6 = w6 at HB ⊢
    clear hC4 hC5
    go_wp2_with fail
    refine (buckLeast g X b hb256 _ (HK.out _ HB.out)).mono ?_
    rintro r w' ⟨rfl, rfl⟩
    go_wp2_with fail
    refine (refLeast12 hT.out A2 c2 b _ (HC.out _ HB.out) hc2).mono ?_
    rintro r w7 ⟨rfl, hb7⟩
    replace HB := Aside0.mk (Below.then_ HB.out hb7)
    clear hb7
    generalize mn (lensTo X X.length b) = M
    go_wp2_with fail
    refine (buckBytes g X _ (HK.out _ HB.out)).mono ?_
    rintro r w8 ⟨rfl, hb8⟩
    replace HB := Aside0.mk (Below.then_ HB.out hb8)
    clear hb8
    go_wp2_with fail
    refine (refBytes12 hT.out A2 c2 _ (HC.out _ HB.out) hc2).mono ?_
    rintro r w9 ⟨rfl, hb9⟩
    replace HB := Aside0.mk (Below.then_ HB.out hb9)
    clear hb9
    generalize strOfNums (bytesTo X 256) = S
    go_wp2_with fail
    refine (buckOfNil b _).mono ?_
    rintro r w' ⟨rfl, rfl⟩
    go_wp2_with fail
    refine (buckLeastNil b _).mono ?_
    rintro r w' ⟨rfl, rfl⟩
    go_wp2_with fail
    refine (buckBytesNil _).mono ?_
    rintro r w' ⟨rfl, rfl⟩
    go_wp2_with fail
    refine (awake12 _).mono ?_
    rintro r w10 ⟨rfl, hb10⟩
    replace HB := Aside0.mk (Below.then_ HB.out hb10)
    clear hb10
    go_wp2_with fail
    go_ret
    exact ⟨rfl, Below.then_ hb03.out HB.out⟩
theorem bucketTells_row (A : Option Addr) (c : Nat) (l : List ByteArray) (b : Int) (w : World) (hr : Kd.C Kd.string w A l.length l) (hc : l.length ≤ c) (hl : l.length * 16 ≤ 140737488351232) (hb : (Lit.int .u8 b).wf = true) :
    Calls Try.prog 4 #[.slice A l.length c, .int .u8 b] w fun r w' => r = .returned (.bool true) ∧ Below w.heap.size w w' := by
  have h := bounds_u8 hb
  obtain ⟨b0, rfl⟩ : ∃ b0 : Nat, b = b0 := ⟨b.toNat, by omega⟩
  exact bucketTells_walk A c l b0 (by omega) w hr hc (by omega)
end Go.Proofs.Ythgjckibnojnpaa
