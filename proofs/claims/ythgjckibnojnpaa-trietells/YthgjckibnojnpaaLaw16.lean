/- The trie of a set: what every statement of layer 16 begins with. Layer 16's example. -/
import Derived.Test.YthgjckibnojnpaaKit
import Derived.Test.YthgjckibnojnpaaTrieW
import Derived.Test.YthgjckibnojnpaaTrieX
import Derived.OpenShut
set_option linter.unusedVariables false
set_option linter.unusedSimpArgs false
namespace Go.Proofs.Ythgjckibnojnpaa
open Go.RowKit Go.Proofs.YthgjckibnojnpaaW.PrintWords PA Pl

namespace Pl
theorem tot_total (xs : List ByteArray) : (tot xs : Int) = total xs := by
  have : ∀ (ys : List ByteArray) (n : Int), ys.foldl (fun n s => n + (s.size : Int)) n = n + (tot ys : Int) := by
    intro ys
    induction ys with
    | nil => intro n; simp [tot]
    | cons s ys ih =>
      intro n
      rw [List.foldl_cons, ih]
      simp only [tot, List.map_cons, List.sum_cons]
      omega
  unfold total
  rw [this xs 0]
  omega
theorem srt_asc {l : List ByteArray} (h : l.Nodup) : Asc (srt l) := by
  have h1 : (srt l).Pairwise fun a b => (!decide (tx b < tx a)) = true := List.pairwise_mergeSort (le := fun a b => !decide (tx b < tx a)) (fun a b c h1 h2 => by
      simp only [Bool.not_eq_true', decide_eq_false_iff_not, List.not_lt] at h1 h2 ⊢
      exact List.le_trans h1 h2) (fun a b => by
      simp only [Bool.or_eq_true, Bool.not_eq_true', decide_eq_false_iff_not, List.not_lt]
      exact List.le_total ..) l
  have h2 : (srt l).Nodup := (srt_perm l).nodup_iff.2 h
  unfold Asc
  refine (h1.and h2).imp (fun {a b} hab => ?_)
  obtain ⟨h3, h4⟩ := hab
  simp only [Bool.not_eq_true', decide_eq_false_iff_not, List.not_lt] at h3
  rcases List.le_iff_lt_or_eq.1 h3 with h5 | h5
  · exact h5
  · exact absurd (tx_inj h5) h4
theorem theSet_asc (l : List ByteArray) : Asc (theSet l) := by
  unfold theSet
  split
  · rename_i h
    exact srt_asc (newE_tame h).2.2.2.2
  · exact List.Pairwise.nil
theorem theSet_tot (l : List ByteArray) : tot (theSet l) ≤ 16777216 := by
  unfold theSet
  split
  · rename_i h
    have h1 := (newE_tame h).2.2.2.1
    have h2 := tot_total (srt l)
    rw [total_perm (srt_perm l)] at h2
    omega
  · simp [tot]
theorem stOf_len (xs : List ByteArray) : (stOf xs).length ≤ 1 + tot xs := Nat.le_trans (stUpto_cnt _ _) (Nat.add_le_add_left (sum_min _ _) 1)
/-- What Next answers. -/
def NextIs (S : List ByteArray) (p : ByteArray) (c : UInt8) (e : Ending) : Prop :=
  (∃ (k : Nat) (q : ByteArray), S[k]? = some q ∧ tx q = tx p ++ [c] ∧ e = .returned (.tuple #[.int .i64 k, .bool true])) ∨ ((∀ q, tx q = tx p ++ [c] → q ∉ S) ∧ e = .returned (.tuple #[.int .i64 0, .bool false]))
end Pl
theorem trieMade (v : Value) (xs : List ByteArray) (w : World) (h : SetV w v xs) (hT : Tame xs) (hA : Asc xs) (ht : tot xs ≤ 16777216) :
    Calls Try.prog 43 #[v] w fun e w' => ∃ g sts, e = .returned (.pointer (some ⟨g, 0, none⟩)) ∧ TrieAt w' g sts ∧ GoodT xs (stOf xs) sts ∧ Below w.heap.size w w' := by
  refine (trieNew v xs w h hA hT.len (fun s hs => (hT.size s hs).2) ht).mono ?_
  rintro e w' ⟨g, v', sts, rfl, hM, hG, hB⟩
  have hl := stOf_len xs
  have := hG.len
  exact ⟨g, sts, rfl, hM.at_ (GoodT.pos hG) (by omega), hG, hB⟩
theorem trieNextS (g : Nat) (xs S : List ByteArray) (sts : List TS) (T : GoodT xs S sts) (s : Nat) (p : ByteArray) (hp : S[s]? = some p) (c : UInt8) (w : World) (h : TrieAt w g sts) :
    Calls Try.prog 47 #[.pointer (some ⟨g, 0, none⟩), .int .i64 s, .int .u8 (c.toNat : Int)] w fun e w' => NextIs S p c e ∧ ∃ n, w' = w.drewN n := by
  have hs : s < sts.length := by rw [T.len]; exact (List.getElem?_eq_some_iff.1 hp).1
  have hst : sts[s]? = some sts[s] := List.getElem?_eq_getElem hs
  obtain ⟨f, m, h1, h2, h3, h4, h5, h6⟩ := GoodT.kids T hst
  refine (trieNext g sts s hs c.toNat (UInt8.toNat_lt c) w h f m h1 h2 h4 h6).mono ?_
  rintro e w' ⟨he, hw⟩
  refine ⟨?_, hw⟩
  rcases he with ⟨k, t, g1, g2, g3, g4, rfl⟩ | ⟨g1, rfl⟩
  · have hk : k < S.length := by rw [← T.len]; exact (List.getElem?_eq_some_iff.1 g3).1
    exact .inl ⟨k, S[k], List.getElem?_eq_getElem hk, (GoodT.kid T hst hp g3 (List.getElem?_eq_getElem hk) h5 h3 c).1 ⟨g1, g2, g4⟩, rfl⟩
  · exact .inr ⟨GoodT.none_ T hst hp h5 h3 c (fun j u a1 a2 a3 => g1 j u a1 a2 a3), rfl⟩
end Go.Proofs.Ythgjckibnojnpaa
namespace Go.Proofs.Ythgjckibnojnpaa
open Go.RowKit Go.Proofs.YthgjckibnojnpaaW.PrintWords PA Pl

def ex16 : List ByteArray := [⟨#[97, 98]⟩, ⟨#[97, 99]⟩, ⟨#[98]⟩]
theorem ex16_new : newE ex16 = 0 := newE_ok (by decide) (by decide) (by decide) (by decide) (by decide)
theorem ex16_srt : srt ex16 = ex16 := srt_id (by decide)
theorem ex16_st : stOf ex16 = [ByteArray.empty, ⟨#[97]⟩, ⟨#[98]⟩, ⟨#[97, 98]⟩, ⟨#[97, 99]⟩] := by decide +kernel

set_option maxHeartbeats 1000000 in
set_option maxRecDepth 20000 in
theorem awake16 (w : World) : Calls Try.prog 42 #[] w fun e w' => e = .returned (.bool true) ∧ Below w.heap.size w w' := by
  have hC := litC Value.string (fun _ => rfl) w 9 ex16 (by decide)
  have hN := new_any _ 3 ex16 _ hC (by unfold Fit; decide)
  unfold NewPost at hN
  rw [ex16_new, if_pos rfl, ex16_srt] at hN
  clear hC
  go_enter Try.func42, Try.ntmps42
  go_wp2_with fail
  refine hN.mono ?_
  rintro e w1 ⟨v, rfl, hS, hb1⟩
  have hP := trieMade v ex16 w1 hS ⟨by decide, by decide⟩ (by unfold Asc; decide) (by decide)
  replace hb1 := Aside0.mk hb1
  clear hN hS
  go_wp2_with fail
  refine hP.mono ?_
  rintro e w2 ⟨g, sts, rfl, hT, hG, hb2⟩
  rw [ex16_st] at hG
  have hlen : sts.length = 5 := hG.len
  have h1 := trieNextS g ex16 _ sts hG 1 ⟨#[97]⟩ rfl 99 w2 hT
  replace hb2 := Aside0.mk hb2
  replace hT := Aside0.mk hT
  replace hG := Aside0.mk hG
  clear hP
  replace h1 := Aside0.mk h1
  go_wp2_with fail
  refine h1.out.mono ?_
  rintro e w3 ⟨he, n3, rfl⟩
  have he2 : e = .returned (.tuple #[.int .i64 4, .bool true]) := by
    rcases he with ⟨k, q, g1, g2, rfl⟩ | ⟨g1, rfl⟩
    · have hq : q = ⟨#[97, 99]⟩ := tx_inj g2
      have hk : k = 4 := tree_inj hG.out g1 (by rw [hq]; rfl)
      rw [hk]; rfl
    · exact absurd (show (⟨#[97, 99]⟩ : ByteArray) ∈ _ by simp) (g1 ⟨#[97, 99]⟩ rfl)
  subst he2
  clear he h1
  have hT3 := hT.out.drewN n3
  have hl := trieLen g sts _ hT3
  rw [hlen] at hl
  have hp := triePath g ex16 _ sts hG.out 3 ⟨#[97, 98]⟩ rfl _ hT3
  replace hl := Aside0.mk hl
  replace hp := Aside0.mk hp
  clear hlen hT3
  go_wp2_with fail
  refine hl.out.mono ?_
  rintro e w' ⟨rfl, rfl⟩
  go_wp2_with fail
  refine hp.out.mono ?_
  rintro e w5 ⟨rfl, hb5⟩
  replace hb5 := Aside0.mk hb5
  clear hl hp
  go_wp2_with fail
  go_ret
  refine ⟨rfl, ?_⟩
  have k0 : Below w.heap.size w _ := (Below.refl _ w).alloc (Nat.le_refl _) (.cells #[.string ⟨#[97, 98]⟩, .string ⟨#[97, 99]⟩, .string ⟨#[98]⟩] 9)
  exact Below.then_ (below_drewN' (Below.then_ (Below.then_ k0 hb1.out) hb2.out) n3) hb5.out
end Go.Proofs.Ythgjckibnojnpaa
