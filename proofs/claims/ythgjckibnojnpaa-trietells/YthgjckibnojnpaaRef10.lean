/- The references of layers 9 and 10, plainly: Twice, Sorted, New, Least. -/
import Derived.Test.YthgjckibnojnpaaEv
import Derived.Test.YthgjckibnojnpaaSet
import Derived.Test.YthgjckibnojnpaaSort
import Derived.Test.YthgjckibnojnpaaPAJuratref10New
import Derived.Test.YthgjckibnojnpaaPAJuratref10Least
set_option linter.unusedVariables false
set_option linter.unusedSimpArgs false
namespace Go.Proofs.Ythgjckibnojnpaa
open Go.RowKit Go.Proofs.YthgjckibnojnpaaW.PrintWords PA Pl Go.Sort

/-! Twice -/
def TwiceR (xs : List ByteArray) (r : Int) : Prop := (r = -1 ∧ xs.Nodup) ∨ (0 ≤ r ∧ ¬ xs.Nodup)
theorem twice_l1 (xs : List ByteArray) (hl : xs.length ≤ 9223372036854775806) (i : Nat) (hi : i < xs.length) (Q : Int → Prop)
    (hend : (∀ j, j < i → xs[j]? ≠ xs[i]?) → ∃ r, Q r ∧ Ev (fun n => juratref09_Twice.l0 n xs ((i + 1 : Nat) : Int)) r) (hyes : ∀ j, j < i → xs[j]? = xs[i]? → Q i) (d : Nat) :
    ∀ k : Nat, k + d = i → (∀ j, j < k → xs[j]? ≠ xs[i]?) → ∃ r, Q r ∧ Ev (fun n => juratref09_Twice.l1 n xs i k) r := by
  induction d with
  | zero =>
    intro k hk hs
    obtain ⟨r, hq, he⟩ := hend (fun j hj => hs j (by omega))
    refine ⟨r, hq, Ev.step (fun n => by rw [juratref09_Twice.l1]) ?_⟩
    refine ev_neg (by omega) ?_
    rw [wrap_nat (by omega)]
    exact he
  | succ d ih =>
    intro k hk hs
    by_cases h : xs[k]? = xs[i]?
    · refine ⟨i, hyes k (by omega) h, Ev.step (fun n => by rw [juratref09_Twice.l1]) ?_⟩
      refine ev_pos (by omega) (ev_pos (by omega) (ev_pos (by omega) (ev_pos (by omega) (ev_pos (by omega) (ev_pos ?_ ev_now)))))
      rw [rdOf_at xs k (by omega), rdOf_at xs i hi, toList_inj]
      rw [List.getElem?_eq_getElem (by omega), List.getElem?_eq_getElem hi] at h
      exact Option.some.inj h
    · obtain ⟨r, hq, he⟩ := ih (k + 1) (by omega) (fun j hj => by
        by_cases e : j = k
        · rw [e]; exact h
        · exact hs j (by omega))
      refine ⟨r, hq, Ev.step (fun n => by rw [juratref09_Twice.l1]) ?_⟩
      refine ev_pos (by omega) (ev_pos (by omega) (ev_pos (by omega) (ev_pos (by omega) (ev_pos (by omega) (ev_neg ?_ ?_)))))
      · rw [rdOf_at xs k (by omega), rdOf_at xs i hi, toList_inj]
        intro e
        exact h (by rw [List.getElem?_eq_getElem (by omega), List.getElem?_eq_getElem hi, e])
      · rw [wrap_nat (by omega)]
        exact he
theorem nodup_take_succ {xs : List ByteArray} {i : Nat} (hi : i < xs.length) (h : (xs.take i).Nodup) (hs : ∀ j, j < i → xs[j]? ≠ xs[i]?) : (xs.take (i + 1)).Nodup := by
  rw [List.take_succ_eq_append_getElem hi, List.nodup_append]
  refine ⟨h, by simp, fun a ha b hb e => ?_⟩
  simp only [List.mem_singleton] at hb
  subst hb
  subst e
  obtain ⟨j, hj, he⟩ := List.mem_iff_getElem.1 ha
  rw [List.length_take] at hj
  rw [List.getElem_take] at he
  exact hs j (by omega) (by rw [List.getElem?_eq_getElem (by omega), List.getElem?_eq_getElem hi, he])
theorem not_nodup_at {xs : List ByteArray} {i j : Nat} (hi : i < xs.length) (hj : j < i) (h : xs[j]? = xs[i]?) : ¬ xs.Nodup := by
  intro hn
  rw [List.getElem?_eq_getElem (by omega), List.getElem?_eq_getElem hi] at h
  exact List.pairwise_iff_getElem.1 hn j i (by omega) hi hj (Option.some.inj h)
theorem twice_l0 (xs : List ByteArray) (hl : xs.length ≤ 9223372036854775806) (d : Nat) :
    ∀ i : Nat, i + d = xs.length → (xs.take i).Nodup → ∃ r, TwiceR xs r ∧ Ev (fun n => juratref09_Twice.l0 n xs i) r := by
  induction d with
  | zero =>
    intro i hi hn
    refine ⟨-1, .inl ⟨rfl, by rwa [List.take_of_length_le (by omega)] at hn⟩, Ev.step (fun n => by rw [juratref09_Twice.l0]) ?_⟩
    exact ev_neg (by omega) ev_now
  | succ d ih =>
    intro i hi hn
    obtain ⟨r, hq, he⟩ := twice_l1 xs hl i (by omega) (TwiceR xs) (fun hs => ih (i + 1) (by omega) (nodup_take_succ (by omega) hn hs)) (fun j hj h => .inr ⟨by omega, not_nodup_at (by omega) hj h⟩) i 0 (by omega) (fun j hj => by omega)
    refine ⟨r, hq, Ev.step (fun n => by rw [juratref09_Twice.l0]) ?_⟩
    exact ev_pos (by omega) he
theorem twiceR_ev (xs : List ByteArray) (hl : xs.length ≤ 9223372036854775806) : ∃ r, TwiceR xs r ∧ Ev (fun n => juratref09_Twice.f n xs) r := twice_l0 xs hl xs.length 0 (by omega) (by simp)

/-! Sorted: each text is put where it belongs. -/
def leT (a b : ByteArray) : Bool := !decide (tx b < tx a)
theorem leT_iff {a b : ByteArray} : leT a b = true ↔ ¬ tx b < tx a := by simp [leT]
theorem leT_trans (a b c : ByteArray) (h1 : leT a b = true) (h2 : leT b c = true) : leT a c = true := by
  rw [leT_iff] at *
  exact fun h => absurd (List.lt_of_le_of_lt h2 h) h1
theorem leT_total (a b : ByteArray) : (leT a b || leT b a) = true := by
  rw [Bool.or_eq_true, leT_iff, leT_iff]
  by_cases h : tx b < tx a
  · exact .inr (fun h' => List.lt_irrefl _ (List.lt_trans h h'))
  · exact .inl h
theorem leT_anti {a b : ByteArray} (h1 : leT a b = true) (h2 : leT b a = true) : a = b := by
  rw [leT_iff] at *
  exact tx_inj (List.le_antisymm h1 h2)
theorem srt_sorted (l : List ByteArray) : (srt l).Pairwise (fun a b => leT a b = true) := List.pairwise_mergeSort leT_trans leT_total l
theorem srt_unique {l m : List ByteArray} (hp : l.Perm m) (hs : l.Pairwise (fun a b => leT a b = true)) : l = srt m :=
  List.Perm.eq_of_pairwise (fun a b _ _ h1 h2 => leT_anti h1 h2) hs (srt_sorted m) (hp.trans (srt_perm m).symm)

theorem sorted_l1 (xs : List ByteArray) (hl : xs.length < 8796093022207) (i : Nat) (hi : i < xs.length) (out : List ByteArray) (ho : out.length = i) :
    ∀ k : Nat, k ≤ out.length → (∀ j (h : j < out.length), k ≤ j → tx xs[i] < tx out[j]) →
      ∃ m, ∃ hm : m ≤ out.length, (∀ h : 0 < m, ¬ tx xs[i] < tx out[m - 1]) ∧ (∀ j (h : j < out.length), m ≤ j → tx xs[i] < tx out[j]) ∧
        ∀ r, Ev (fun n => juratref09_Sorted.l0 n xs (out.take m ++ [xs[i]] ++ out.drop m) ((i + 1 : Nat) : Int)) r → Ev (fun n => juratref09_Sorted.l1 n xs out i k) r := by
  intro k
  have hless : ∀ j (h : j < out.length), (Op.bytesLess ((rdOf ByteArray.empty xs (i : Int)).toList) ((rdOf ByteArray.empty out (j : Int)).toList) = true) = (tx xs[i] < tx out[j]) := by
    intro j h
    rw [rdOf_at xs i hi, rdOf_at out j h, less_eq, ByteArray.toList_eq, ByteArray.toList_eq, decide_eq_true_eq]
  have hdone : ∀ (m : Nat) (hm : m ≤ out.length) (r : List ByteArray), Ev (fun n => juratref09_Sorted.l0 n xs (out.take m ++ [xs[i]] ++ out.drop m) ((i + 1 : Nat) : Int)) r →
      (m = 0 → Ev (fun n => juratref09_Sorted.l1 n xs out i m) r) ∧ (∀ h : 0 < m, ¬ tx xs[i] < tx out[m - 1] → Ev (fun n => juratref09_Sorted.l1 n xs out i m) r) := by
    intro m hm r he
    have h1 : (([] : List ByteArray) ++ out.take ((m : Int).toNat)) = out.take m := by simp
    constructor
    · intro h0
      refine Ev.step (fun n => by rw [juratref09_Sorted.l1]) ?_
      refine ev_neg (by omega) ?_
      simp only [Option.bind_some]
      refine ev_pos (by omega) (ev_pos (by omega) (ev_pos (by simp; omega) (ev_pos (by omega) (ev_pos (by omega) (ev_pos (by simp; omega) (ev_pos (by simp; omega) ?_))))))
      rw [wrap_nat (by omega), rdOf_at xs i hi]
      simpa using he
    · intro h0 hno
      refine Ev.step (fun n => by rw [juratref09_Sorted.l1]) ?_
      have hw : wrap64 ((m : Int) - 1) = ((m - 1 : Nat) : Int) := by rw [wrap_in (by omega) (by omega)]; omega
      simp only [Option.bind_some, hw]
      refine ev_pos (by omega) (ev_pos (by omega) (ev_pos (by omega) (ev_pos (by omega) (ev_pos (by omega) (ev_neg (by rw [hless (m - 1) (by omega)]; exact hno) (ev_pos (by omega) (ev_pos (by omega) (ev_pos (by simp; omega) (ev_pos (by simp; omega) (ev_pos (by simp; omega) ?_))))))))))
      rw [wrap_nat (by omega), rdOf_at xs i hi]
      simpa using he
  induction k with
  | zero =>
    intro hk hs
    exact ⟨0, Nat.zero_le _, fun h => by omega, hs, fun r he => (hdone 0 (Nat.zero_le _) r he).1 rfl⟩
  | succ k ih =>
    intro hk hs
    by_cases hlt : tx xs[i] < tx out[k]
    · obtain ⟨m, hm, h1, h2, h3⟩ := ih (by omega) (fun j h hj => by
        by_cases e : j = k
        · subst e; exact hlt
        · exact hs j h (by omega))
      refine ⟨m, hm, h1, h2, fun r he => ?_⟩
      refine Ev.step (fun n => by rw [juratref09_Sorted.l1]) ?_
      have hw : wrap64 (((k + 1 : Nat) : Int) - 1) = (k : Int) := by rw [wrap_in (by omega) (by omega)]; omega
      simp only [hw]
      exact ev_pos (by omega) (ev_pos (by omega) (ev_pos (by omega) (ev_pos (by omega) (ev_pos (by omega) (ev_pos (by rw [hless k (by omega)]; exact hlt) (h3 r he))))))
    · exact ⟨k + 1, hk, fun _ => hlt, fun j h hj => hs j h hj, fun r he => (hdone (k + 1) hk r he).2 (by omega) hlt⟩

theorem ins_sorted {out : List ByteArray} {s : ByteArray} {m : Nat} (hm : m ≤ out.length) (hs : out.Pairwise (fun a b => leT a b = true)) (h1 : ∀ h : 0 < m, ¬ tx s < tx out[m - 1]) (h2 : ∀ j (h : j < out.length), m ≤ j → tx s < tx out[j]) :
    (out.take m ++ [s] ++ out.drop m).Pairwise (fun a b => leT a b = true) := by
  have hlow : ∀ a ∈ out.take m, leT a s = true := by
    intro a ha
    obtain ⟨j, hj, rfl⟩ := List.mem_iff_getElem.1 ha
    rw [List.length_take] at hj
    rw [List.getElem_take]
    have h3 : leT out[m - 1] s = true := leT_iff.2 (h1 (by omega))
    by_cases e : j = m - 1
    · subst e; exact h3
    · exact leT_trans _ _ _ (List.pairwise_iff_getElem.1 hs j (m - 1) (by omega) (by omega) (by omega)) h3
  have hhigh : ∀ b ∈ out.drop m, leT s b = true := by
    intro b hb
    obtain ⟨j, hj, rfl⟩ := List.mem_iff_getElem.1 hb
    rw [List.length_drop] at hj
    rw [List.getElem_drop, leT_iff]
    have := h2 (m + j) (by omega) (by omega)
    exact fun h => List.lt_irrefl _ (List.lt_trans this h)
  rw [List.append_assoc, List.pairwise_append]
  refine ⟨hs.sublist (List.take_sublist _ _), ?_, ?_⟩
  · rw [List.singleton_append, List.pairwise_cons]
    exact ⟨hhigh, hs.sublist (List.drop_sublist _ _)⟩
  · intro a ha b hb
    rw [List.singleton_append, List.mem_cons] at hb
    rcases hb with rfl | hb
    · exact hlow a ha
    · exact leT_trans _ _ _ (hlow a ha) (hhigh b hb)
theorem sorted_l0 (xs : List ByteArray) (hl : xs.length < 8796093022207) (d : Nat) :
    ∀ (i : Nat) (out : List ByteArray), i + d = xs.length → out.Perm (xs.take i) → out.Pairwise (fun a b => leT a b = true) → Ev (fun n => juratref09_Sorted.l0 n xs out i) (srt xs) := by
  induction d with
  | zero =>
    intro i out hi hp hs
    refine Ev.step (fun n => by rw [juratref09_Sorted.l0]) ?_
    refine ev_neg (by omega) (ev_eq ev_now ?_)
    rw [List.take_of_length_le (by omega)] at hp
    exact srt_unique hp hs
  | succ d ih =>
    intro i out hi hp hs
    have ho : out.length = i := by rw [hp.length_eq, List.length_take]; omega
    refine Ev.step (fun n => by rw [juratref09_Sorted.l0]) ?_
    refine ev_pos (by omega) ?_
    obtain ⟨m, hm, h1, h2, h3⟩ := sorted_l1 xs hl i (by omega) out ho out.length (Nat.le_refl _) (fun j h hj => by omega)
    refine h3 _ (ih (i + 1) _ (by omega) ?_ (ins_sorted hm hs h1 h2))
    rw [List.take_succ_eq_append_getElem (by omega)]
    refine List.Perm.trans ?_ (hp.append_right [xs[i]])
    have := List.take_append_drop m out
    refine List.Perm.trans ?_ (List.Perm.append_right _ (List.Perm.of_eq this))
    rw [List.append_assoc, List.append_assoc]
    exact List.Perm.append_left _ List.perm_append_comm
theorem sorted_ev (xs : List ByteArray) (hl : xs.length < 8796093022207) : Ev (fun n => juratref09_Sorted.f n xs) (srt xs) := sorted_l0 xs hl xs.length 0 [] (by omega) (by simp) List.Pairwise.nil

/-! New -/
theorem newR_l0 (xs : List ByteArray) (h0 : xs ≠ []) (h1 : xs.length ≤ 65535) (d : Nat) :
    ∀ (k : Nat), k + d = xs.length → (∀ s ∈ xs.take k, bad1 s = 0) → Ev (fun n => juratref10_New.l0 n xs (total (xs.take k)) k) (if newE xs = 0 then srt xs else [], newE xs) := by
  induction d with
  | zero =>
    intro k hk hs
    rw [List.take_of_length_le (by omega)] at hs ⊢
    have hb : bad xs = 0 := bad_zero.2 (fun s h => bad1_zero.1 (hs s h))
    refine Ev.step (fun n => by rw [juratref10_New.l0]) ?_
    refine ev_neg (by omega) ?_
    by_cases hT : 16777216 < total xs
    · have H : newE xs = 13 := by unfold newE; rw [if_neg h0, if_neg (by omega), if_neg (by rw [hb]; simp), if_pos hT]
      exact ev_pos (by omega) (ev_eq ev_now (by rw [H]; rfl))
    · refine ev_neg (by omega) ?_
      obtain ⟨r, hr, he⟩ := twiceR_ev xs (by omega)
      refine ev_bind he ?_
      rcases hr with ⟨rfl, hn⟩ | ⟨hr0, hn⟩
      · have H : newE xs = 0 := by unfold newE; rw [if_neg h0, if_neg (by omega), if_neg (by rw [hb]; simp), if_neg hT, if_pos hn]
        refine ev_neg (by omega) (ev_bind (sorted_ev xs (by omega)) (ev_eq ev_now ?_))
        rw [H]; rfl
      · have H : newE xs = 8 := by unfold newE; rw [if_neg h0, if_neg (by omega), if_neg (by rw [hb]; simp), if_neg hT, if_neg hn]
        exact ev_pos (by omega) (ev_eq ev_now (by rw [H]; rfl))
  | succ d ih =>
    intro k hk hs
    have hlt : k < xs.length := by omega
    have htk : xs.take (k + 1) = xs.take k ++ [xs[k]] := List.take_succ_eq_append_getElem hlt
    refine Ev.step (fun n => by rw [juratref10_New.l0]) ?_
    refine ev_pos (by omega) (ev_pos (by omega) ?_)
    rw [rdOf_at xs k hlt, wrap_nat (by omega)]
    by_cases hb1 : bad1 xs[k] = 0
    · have hg := bad1_zero.1 hb1
      have hT := total_le (xs.take k) 65535 (fun s h => (bad1_zero.1 (hs s h)).2)
      rw [List.length_take] at hT
      have hw : wrap64 (total (xs.take k) + (xs[k].size : Int)) = total (xs.take (k + 1)) := by rw [htk, total_snoc, wrap_in (by omega) (by omega)]
      refine ev_neg (by rw [empty_iff]; omega) (ev_neg (by omega) ?_)
      rw [hw]
      refine ih (k + 1) (by omega) (fun s h => ?_)
      rw [htk, List.mem_append, List.mem_singleton] at h
      rcases h with h | rfl
      · exact hs s h
      · exact hb1
    · have hb := bad_at hlt hs hb1
      have H : newE xs = bad1 xs[k] := by unfold newE; rw [if_neg h0, if_neg (by omega), if_pos (by rw [hb]; exact hb1), hb]
      by_cases hz : xs[k].size = 0
      · have : bad1 xs[k] = 7 := by unfold bad1; rw [if_pos hz]
        exact ev_pos ((empty_iff _).2 hz) (ev_eq ev_now (by rw [H, this]; rfl))
      · have hbig : 65535 < xs[k].size := by
          rcases Nat.lt_or_ge 65535 xs[k].size with h | h
          · exact h
          · exact absurd (bad1_zero.2 ⟨by omega, h⟩) hb1
        have : bad1 xs[k] = 5 := by unfold bad1; rw [if_neg hz, if_pos hbig]
        exact ev_neg (by rw [empty_iff]; exact hz) (ev_pos (by omega) (ev_eq ev_now (by rw [H, this]; rfl)))
/-- The reference's set: the same error, the same list. -/
theorem newR_ev (xs : List ByteArray) : Ev (fun n => juratref10_New.f n xs) (if newE xs = 0 then srt xs else [], newE xs) := by
  unfold juratref10_New.f
  by_cases h0 : xs = []
  · have H : newE xs = 14 := by unfold newE; rw [if_pos h0]
    exact ev_pos (by rw [h0]; rfl) (ev_eq ev_now (by rw [H]; rfl))
  · have hp : 0 < xs.length := List.length_pos_iff.2 h0
    by_cases h1 : 65535 < xs.length
    · have H : newE xs = 6 := by unfold newE; rw [if_neg h0, if_pos h1]
      exact ev_neg (by omega) (ev_pos (by omega) (ev_eq ev_now (by rw [H]; rfl)))
    · exact ev_neg (by omega) (ev_neg (by omega) (newR_l0 xs h0 (by omega) xs.length 0 (by omega) (fun s h => by simp at h)))

/-! Least -/
theorem leastR_l0 (xs : List ByteArray) (hl : xs.length ≤ 9223372036854775806) (d : Nat) : ∀ k : Nat, k + d = xs.length → Ev (fun n => juratref10_Least.l0 n xs (least (xs.take k)) k) (least xs) := by
  induction d with
  | zero =>
    intro k hk
    refine Ev.step (fun n => by rw [juratref10_Least.l0]) ?_
    refine ev_neg (by omega) (ev_eq ev_now ?_)
    rw [List.take_of_length_le (by omega)]
  | succ d ih =>
    intro k hk
    have hlt : k < xs.length := by omega
    have htk : xs.take (k + 1) = xs.take k ++ [xs[k]] := List.take_succ_eq_append_getElem hlt
    have h1 := ih (k + 1) (by omega)
    refine Ev.step (fun n => by rw [juratref10_Least.l0]) ?_
    refine ev_pos (by omega) ?_
    rw [rdOf_at xs k hlt, wrap_nat (by omega)]
    by_cases h0 : k = 0
    · subst h0
      have h2 : least (xs.take (0 + 1)) = (xs[0].size : Int) := by rw [htk]; simp [least]
      rw [h2] at h1
      exact ev_pos (by omega) (ev_pos (by omega) h1)
    · have h2 : least (xs.take (k + 1)) = min (least (xs.take k)) (xs[k].size : Int) := by rw [htk, least_snoc _ _ (by intro e; have := congrArg List.length e; rw [List.length_take, List.length_nil] at this; omega)]
      rw [h2] at h1
      refine ev_neg (by omega) (ev_pos (by omega) ?_)
      by_cases h3 : (xs[k].size : Int) < least (xs.take k)
      · rw [Int.min_eq_right (by omega)] at h1
        exact ev_pos h3 h1
      · rw [Int.min_eq_left (by omega)] at h1
        exact ev_neg h3 h1
theorem leastR_ev (xs : List ByteArray) (hl : xs.length ≤ 9223372036854775806) : Ev (fun n => juratref10_Least.f n xs) (least xs) := leastR_l0 xs hl xs.length 0 (by omega)
end Go.Proofs.Ythgjckibnojnpaa
