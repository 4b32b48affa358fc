/- The references of layer 14, plainly. -/
import Derived.Test.YthgjckibnojnpaaRef10
import Derived.Test.YthgjckibnojnpaaPair
import Derived.Test.YthgjckibnojnpaaPAJuratref14Near
import Derived.Test.YthgjckibnojnpaaPAJuratref14Len
set_option linter.unusedVariables false
set_option linter.unusedSimpArgs false
namespace Go.Proofs.Ythgjckibnojnpaa
open Go.RowKit Go.Proofs.YthgjckibnojnpaaW.PrintWords PA Pl

/-- Texts that fit, none empty, not too many. -/
structure Tame (xs : List ByteArray) : Prop where
  len : xs.length ≤ 65535
  size : ∀ s ∈ xs, 0 < s.size ∧ s.size ≤ 65535
theorem Tame.least {xs : List ByteArray} (h : Tame xs) : 0 ≤ least xs ∧ least xs ≤ 65535 := by
  rcases (least_spec xs).2 with rfl | ⟨s, hs, h2⟩
  · simp [Pl.least]
  · have := h.size s hs; omega
theorem Tame.far {xs : List ByteArray} (h : Tame xs) {s : ByteArray} (hs : s ∈ xs) : far xs + 1 ≤ s.size := by
  have h1 := (least_spec xs).1 s hs
  have h2 := h.size s hs
  unfold Pl.far
  omega
theorem farR_ev (xs : List ByteArray) (h : Tame xs) : Ev (fun n => juratref14_Far.f n xs) (far xs : Int) := by
  have hl := h.least
  have h0 := h.len
  unfold juratref14_Far.f
  refine ev_bind (leastR_ev xs (by omega)) ?_
  by_cases h1 : least xs = 0
  · exact ev_pos h1 (ev_eq ev_now (by unfold Pl.far; omega))
  · refine ev_neg h1 (ev_eq ev_now ?_)
    rw [wrap_in (by omega) (by omega)]
    unfold Pl.far; omega
/-- Has a text the pair at a distance? -/
def HasAt (xs : List ByteArray) (p : Int × Int) (d : Nat) : Prop := ∃ s ∈ xs, pairAt s d = p
theorem hasR_l0 (xs : List ByteArray) (h : Tame xs) (a b : Int) (j : Nat) (hj : j < far xs) (d : Nat) :
    ∀ k : Nat, k + d = xs.length → (∀ s ∈ xs.take k, pairAt s j ≠ (a, b)) → ∃ r : Bool, (r = true ↔ HasAt xs (a, b) j) ∧ Ev (fun n => juratref14_Has.l0 n xs a b j k) r := by
  induction d with
  | zero =>
    intro k hk hs
    refine ⟨false, ⟨(fun e => by cases e), fun ⟨s, h1, h2⟩ => ?_⟩, Ev.step (fun n => by rw [juratref14_Has.l0]) (ev_neg (by omega) ev_now)⟩
    rw [List.take_of_length_le (by omega)] at hs
    exact absurd h2 (hs s h1)
  | succ d ih =>
    intro k hk hs
    have hlt : k < xs.length := by omega
    have hm := List.getElem_mem hlt
    have hfar := h.far hm
    have hsz := h.size _ hm
    have h0 := h.len
    have htk : xs.take (k + 1) = xs.take k ++ [xs[k]] := List.take_succ_eq_append_getElem hlt
    have hw1 : wrap64 ((j : Int) + 1) = ((j + 1 : Nat) : Int) := wrap_nat (by omega)
    have hw2 : wrap64 (wrap64 ((xs[k].size : Int) - 1) - j) = (xs[k].size : Int) - 1 - j := by rw [wrap_in (x := (xs[k].size : Int) - 1) (by omega) (by omega), wrap_in (by omega) (by omega)]
    have hw3 : wrap64 (wrap64 ((xs[k].size : Int) - 2) - j) = (xs[k].size : Int) - 2 - j := by rw [wrap_in (x := (xs[k].size : Int) - 2) (by omega) (by omega), wrap_in (by omega) (by omega)]
    by_cases hp : pairAt xs[k] j = (a, b)
    · have h1 : bt xs[k] ((xs[k].size : Int) - 2 - j) = a := congrArg Prod.fst hp
      have h2 : bt xs[k] ((xs[k].size : Int) - 1 - j) = b := congrArg Prod.snd hp
      refine ⟨true, ⟨fun _ => ⟨_, hm, hp⟩, fun _ => rfl⟩, Ev.step (fun n => by rw [juratref14_Has.l0]) ?_⟩
      simp only [rdOf_at xs k hlt, hw1, hw2, hw3]
      exact ev_pos (by omega) (ev_pos (by omega) (ev_pos (by omega) (ev_pos (by omega) (ev_pos (by omega) (ev_pos h2 (ev_pos (by omega) (ev_pos (by omega) (ev_pos h1 ev_now))))))))
    · obtain ⟨r, hr, he⟩ := ih (k + 1) (by omega) (fun s hs' => by
        rw [htk, List.mem_append, List.mem_singleton] at hs'
        rcases hs' with hs' | rfl
        · exact hs s hs'
        · exact hp)
      refine ⟨r, hr, Ev.step (fun n => by rw [juratref14_Has.l0]) ?_⟩
      simp only [rdOf_at xs k hlt, hw1, hw2, hw3, wrap_nat (show k < 9223372036854775807 by omega)]
      refine ev_pos (by omega) (ev_pos (by omega) (ev_pos (by omega) (ev_pos (by omega) (ev_pos (by omega) ?_))))
      by_cases h2 : bt xs[k] ((xs[k].size : Int) - 1 - j) = b
      · refine ev_pos h2 (ev_pos (by omega) (ev_pos (by omega) (ev_neg (fun h1 => hp ?_) he)))
        unfold pairAt
        rw [h1, h2]
      · exact ev_neg h2 he
/-- What the nearest distance is. -/
def NearIs (xs : List ByteArray) (p : Int × Int) (v : Int) : Prop :=
  (v = far xs ∧ ∀ d, d < far xs → ¬ HasAt xs p d) ∨ ∃ d : Nat, v = d ∧ d < far xs ∧ HasAt xs p d ∧ ∀ d', d' < d → ¬ HasAt xs p d'
theorem NearIs.unique {xs : List ByteArray} {p : Int × Int} {v u : Int} (h : NearIs xs p v) (k : NearIs xs p u) : v = u := by
  rcases h with ⟨h1, h2⟩ | ⟨d, h1, h2, h3, h4⟩ <;> rcases k with ⟨k1, k2⟩ | ⟨e, k1, k2, k3, k4⟩
  · omega
  · exact absurd k3 (h2 e k2)
  · exact absurd h3 (k2 d h2)
  · have : ¬ d < e := fun hlt => k4 d hlt h3
    have : ¬ e < d := fun hlt => h4 e hlt k3
    omega
theorem nearR_l0 (xs : List ByteArray) (h : Tame xs) (a b : Int) (d : Nat) :
    ∀ k : Nat, k + d = far xs → (∀ d', d' < k → ¬ HasAt xs (a, b) d') → ∃ r, NearIs xs (a, b) r ∧ Ev (fun n => juratref14_Near.l0 n xs a b k) r := by
  have hf : far xs ≤ 65535 := by have := h.least; unfold Pl.far; omega
  induction d with
  | zero =>
    intro k hk hs
    refine ⟨far xs, .inl ⟨rfl, fun d' hd' => hs d' (by omega)⟩, Ev.step (fun n => by rw [juratref14_Near.l0]) ?_⟩
    exact ev_bind (farR_ev xs h) (ev_neg (by omega) (ev_bind (farR_ev xs h) ev_now))
  | succ d ih =>
    intro k hk hs
    obtain ⟨r, hr, he⟩ := hasR_l0 xs h a b k (by omega) xs.length 0 (by omega) (fun s hs => by simp at hs)
    cases r with
    | true =>
      refine ⟨k, .inr ⟨k, rfl, by omega, hr.1 rfl, hs⟩, Ev.step (fun n => by rw [juratref14_Near.l0]) ?_⟩
      exact ev_bind (farR_ev xs h) (ev_pos (by omega) (ev_bind he (ev_pos rfl ev_now)))
    | false =>
      have hno : ¬ HasAt xs (a, b) k := fun hh => by have := hr.2 hh; cases this
      obtain ⟨r2, h2, he2⟩ := ih (k + 1) (by omega) (fun d' hd' => by
        by_cases e : d' = k
        · subst e; exact hno
        · exact hs d' (by omega))
      refine ⟨r2, h2, Ev.step (fun n => by rw [juratref14_Near.l0]) ?_⟩
      refine ev_bind (farR_ev xs h) (ev_pos (by omega) (ev_bind he (ev_neg (by simp) ?_)))
      rw [wrap_nat (by omega)]
      exact he2
theorem nearR_ev (xs : List ByteArray) (h : Tame xs) (a b : Int) : ∃ r, NearIs xs (a, b) r ∧ Ev (fun n => juratref14_Near.f n xs a b) r := nearR_l0 xs h a b (far xs) 0 (by omega) (fun d hd => by omega)

/-! How many pairs. -/
def toPair (s : ByteArray) : Int × Int := (bt s 0, bt s 1)
theorem toPair_inj {s t : ByteArray} (hs : s.size = 2) (ht : t.size = 2) (h : toPair s = toPair t) : s = t := by
  have h0 : bt s 0 = bt t 0 := congrArg Prod.fst h
  have h1 : bt s 1 = bt t 1 := congrArg Prod.snd h
  rw [← bt_at s 0 (by simp; omega), ← bt_at t 0 (by simp; omega)] at h0
  rw [← bt_at s 1 (by simp; omega), ← bt_at t 1 (by simp; omega)] at h1
  apply tx_inj
  apply List.ext_getElem (by rw [tx_length, tx_length, hs, ht])
  intro i hi1 hi2
  rw [tx_length] at hi1 hi2
  rw [← tx_get s i hi1, ← tx_get t i hi2]
  match i, hi1, hi2 with
  | 0, _, _ => exact UInt8.toNat_inj.1 (Int.ofNat_inj.1 h0)
  | 1, _, _ => exact UInt8.toNat_inj.1 (Int.ofNat_inj.1 h1)
  | i + 2, h, _ => omega
theorem bt_extract (s : ByteArray) (a b i : Nat) (hab : a + i < b) (hb : b ≤ s.size) : bt (s.extract a b) (i : Int) = bt s ((a + i : Nat) : Int) := by
  have h1 : i < (s.extract a b).size := by rw [ByteArray.size_extract]; omega
  rw [← bt_at _ (i : Int) (by simpa using h1), ← bt_at s ((a + i : Nat) : Int) (by simp; omega)]
  simp only [Int.toNat_natCast]
  congr 2
  rw [ByteArray.getElem_extract]
theorem dd_le (l : List (Int × Int)) : (dd l).length ≤ l.length := by
  suffices H : ∀ (l acc : List (Int × Int)), (l.foldl (fun acc p => if p ∈ acc then acc else acc ++ [p]) acc).length ≤ acc.length + l.length by
    have := H l []
    simp only [List.length_nil, Nat.zero_add] at this
    exact this
  intro l
  induction l with
  | nil => intro acc; simp
  | cons q l ihl =>
    intro acc
    simp only [List.foldl_cons, List.length_cons]
    by_cases hq : q ∈ acc
    · rw [if_pos hq]
      have := ihl acc
      omega
    · rw [if_neg hq]
      have := ihl (acc ++ [q])
      rw [List.length_append, List.length_singleton] at this
      omega
theorem pairs_length (xs : List ByteArray) (i j : Nat) (hi : i ≤ xs.length) : (pairs xs i j).length = i * far xs + j := by
  unfold pairs
  rw [List.length_append, List.length_map, List.length_range, List.length_flatMap]
  simp only [List.length_map, List.length_range]
  rw [List.map_const', List.sum_replicate_nat, List.length_take, Nat.min_eq_left hi]
theorem lenR_l2 (xs : List ByteArray) (been : List ByteArray) (hb : been.length < 8796093022207) (i j : Nat) (hj : j < 65535) (p : ByteArray) (hp : p.size = 2) (h2 : ∀ s ∈ been, s.size = 2) (r : Int)
    (hend : Ev (fun n => juratref14_Len.l1 n xs (if toPair p ∈ been.map toPair then been else been ++ [p]) i ((j + 1 : Nat) : Int)) r) (d : Nat) :
    ∀ (k : Nat) (there : Bool), k + d = been.length → (there = true ↔ toPair p ∈ (been.take k).map toPair) → Ev (fun n => juratref14_Len.l2 n xs been i j p there k) r := by
  induction d with
  | zero =>
    intro k there hk ht
    rw [List.take_of_length_le (by omega)] at ht
    refine Ev.step (fun n => by rw [juratref14_Len.l2]) ?_
    refine ev_neg (by omega) ?_
    rw [wrap_nat (by omega)]
    cases there with
    | true =>
      rw [if_pos (ht.1 rfl)] at hend
      exact ev_pos rfl hend
    | false =>
      rw [if_neg (fun h => by have := ht.2 h; cases this)] at hend
      exact ev_neg (by simp) (ev_pos (by omega) hend)
  | succ d ih =>
    intro k there hk ht
    have hlt : k < been.length := by omega
    have htk : been.take (k + 1) = been.take k ++ [been[k]] := List.take_succ_eq_append_getElem hlt
    refine Ev.step (fun n => by rw [juratref14_Len.l2]) ?_
    refine ev_pos (by omega) ?_
    rw [wrap_nat (by omega)]
    cases there with
    | true => exact ev_pos rfl (ih (k + 1) true (by omega) (by rw [htk]; simp only [List.map_append, List.mem_append]; exact ⟨fun _ => .inl (ht.1 rfl), fun _ => trivial⟩))
    | false =>
      refine ev_neg (by simp) (ev_pos (by omega) ?_)
      refine ih (k + 1) _ (by omega) ?_
      rw [rdOf_at been k hlt, htk]
      have hno : ¬ toPair p ∈ (been.take k).map toPair := fun h => by have := ht.2 h; cases this
      simp only [List.map_append, List.mem_append, hno, false_or, List.map_cons, List.map_nil, List.mem_singleton, beq_iff_eq]
      rw [toList_inj]
      exact ⟨fun h => by rw [h], fun h => (toPair_inj hp (h2 _ (List.getElem_mem hlt)) h).symm⟩
theorem lenR_l1 (xs : List ByteArray) (h : Tame xs) (i : Nat) (hi : i < xs.length) (r : Int)
    (hend : ∀ been : List ByteArray, been.map toPair = dd (pairs xs (i + 1) 0) → (∀ s ∈ been, s.size = 2) → Ev (fun n => juratref14_Len.l0 n xs been ((i + 1 : Nat) : Int)) r) (d : Nat) :
    ∀ (j : Nat) (been : List ByteArray), j + d = far xs → been.map toPair = dd (pairs xs i j) → (∀ s ∈ been, s.size = 2) → Ev (fun n => juratref14_Len.l1 n xs been i j) r := by
  have hf : far xs ≤ 65535 := by have := h.least; unfold Pl.far; omega
  have h0 := h.len
  have hm := List.getElem_mem hi
  have hfar := h.far hm
  have hsz := h.size _ hm
  have hgi : xs.getD i ByteArray.empty = xs[i] := by rw [List.getD_eq_getElem?_getD, List.getElem?_eq_getElem hi]; rfl
  induction d with
  | zero =>
    intro j been hj hb h2
    have : j = far xs := by omega
    subst this
    refine Ev.step (fun n => by rw [juratref14_Len.l1]) ?_
    refine ev_bind (farR_ev xs h) (ev_neg (by omega) ?_)
    rw [wrap_nat (by omega)]
    exact hend been (by rw [hb, pairs_next xs i hi]) h2
  | succ d ih =>
    intro j been hj hb h2
    refine Ev.step (fun n => by rw [juratref14_Len.l1]) ?_
    have hw1 : wrap64 (wrap64 ((xs[i].size : Int) - 2) - j) = ((xs[i].size - 2 - j : Nat) : Int) := by rw [wrap_in (x := (xs[i].size : Int) - 2) (by omega) (by omega), wrap_in (by omega) (by omega)]; omega
    have hw2 : wrap64 ((xs[i].size : Int) - j) = ((xs[i].size - j : Nat) : Int) := by rw [wrap_in (by omega) (by omega)]; omega
    simp only [rdOf_at xs i hi, hw1, hw2, Int.toNat_natCast]
    refine ev_bind (farR_ev xs h) (ev_pos (by omega) (ev_pos (by omega) (ev_pos (by omega) (ev_pos (by omega) (ev_pos (by omega) (ev_pos (by omega) ?_))))))
    have hps : (xs[i].extract (xs[i].size - 2 - j) (xs[i].size - j)).size = 2 := by rw [ByteArray.size_extract]; omega
    have hpp : toPair (xs[i].extract (xs[i].size - 2 - j) (xs[i].size - j)) = pairAt xs[i] j := by
      unfold toPair pairAt
      have e1 := bt_extract xs[i] (xs[i].size - 2 - j) (xs[i].size - j) 0 (by omega) (by omega)
      have e2 := bt_extract xs[i] (xs[i].size - 2 - j) (xs[i].size - j) 1 (by omega) (by omega)
      have e3 : (((xs[i].size - 2 - j + 0 : Nat) : Int)) = (xs[i].size : Int) - 2 - j := by omega
      have e4 : (((xs[i].size - 2 - j + 1 : Nat) : Int)) = (xs[i].size : Int) - 1 - j := by omega
      rw [e3] at e1
      rw [e4] at e2
      exact Prod.ext e1 e2
    have hlen : been.length ≤ (far xs) * xs.length + far xs := by
      have h1 : been.length = (dd (pairs xs i j)).length := by rw [← hb, List.length_map]
      have h3 := dd_le
      have h4 := h3 (pairs xs i j)
      have h5 := pairs_length xs i j (by omega)
      have h6 : i * far xs ≤ far xs * xs.length := by rw [Nat.mul_comm]; exact Nat.mul_le_mul_left _ (by omega)
      omega
    have hlen2 : far xs * xs.length ≤ 65535 * 65535 := Nat.mul_le_mul hf h0
    refine lenR_l2 xs been (by omega) i j (by omega) _ hps h2 r ?_ been.length 0 false (by omega) (by simp)
    refine ih (j + 1) _ (by omega) ?_ ?_
    · rw [pairs_succ, dd_snoc, hgi, ← hpp, ← hb]
      split <;> simp
    · intro s hs
      split at hs
      · exact h2 s hs
      · rcases List.mem_append.1 hs with hs | hs
        · exact h2 s hs
        · rw [List.mem_singleton.1 hs]; exact hps
theorem lenR_l0 (xs : List ByteArray) (h : Tame xs) (d : Nat) :
    ∀ (i : Nat) (been : List ByteArray), i + d = xs.length → been.map toPair = dd (pairs xs i 0) → (∀ s ∈ been, s.size = 2) → Ev (fun n => juratref14_Len.l0 n xs been i) ((dd (pairs xs xs.length 0)).length : Int) := by
  induction d with
  | zero =>
    intro i been hi hb h2
    have : i = xs.length := by omega
    subst this
    refine Ev.step (fun n => by rw [juratref14_Len.l0]) ?_
    refine ev_neg (by omega) (ev_eq ev_now ?_)
    rw [← hb, List.length_map]
  | succ d ih =>
    intro i been hi hb h2
    refine Ev.step (fun n => by rw [juratref14_Len.l0]) ?_
    refine ev_pos (by omega) ?_
    exact lenR_l1 xs h i (by omega) _ (fun been' hb' h2' => ih (i + 1) been' (by omega) hb' h2') (far xs) 0 been (by omega) hb h2
theorem lenR_ev (xs : List ByteArray) (h : Tame xs) : Ev (fun n => juratref14_Len.f n xs) ((dd (pairs xs xs.length 0)).length : Int) :=
  lenR_l0 xs h xs.length 0 [] (by omega) (by simp [pairs, dd]) (fun s hs => by cases hs)
end Go.Proofs.Ythgjckibnojnpaa
