/- The making of the trie, in plain lists: the states in the order in which they are made, the texts that wait. The making of the trie, in plain lists: what holds between the steps, and at the end. The making of the trie, in plain lists: a state is made, a state is done, the end. The finished trie, in plain lists: what its readers find. -/
import Derived.Test.YthgjckibnojnpaaOrd
set_option linter.unusedVariables false
set_option linter.unusedSimpArgs false
namespace Go.Proofs.Ythgjckibnojnpaa.Pl

/-- A text's beginning. -/
def beg (s : ByteArray) (n : Nat) : ByteArray := s.extract 0 n
def stStep (n : Nat) (acc : List ByteArray) (s : ByteArray) : List ByteArray := if n ≤ s.size ∧ beg s n ≠ acc.getLast?.getD ByteArray.empty then acc ++ [beg s n] else acc
def stLevel (xs : List ByteArray) (n : Nat) (acc : List ByteArray) : List ByteArray := xs.foldl (stStep n) acc
def stUpto (xs : List ByteArray) : Nat → List ByteArray
  | 0 => [ByteArray.empty]
  | n + 1 => stLevel xs (n + 1) (stUpto xs n)
def longest (xs : List ByteArray) : Nat := xs.foldl (fun m s => max m s.size) 0
/-- The reference's states. -/
def stOf (xs : List ByteArray) : List ByteArray := stUpto xs (longest xs)
theorem stStep_ne (n : Nat) (acc : List ByteArray) (s : ByteArray) (h : acc ≠ []) : stStep n acc s ≠ [] := by
  unfold stStep
  split
  · simp
  · exact h
theorem stStep_len (n : Nat) (acc : List ByteArray) (s : ByteArray) : (stStep n acc s).length ≤ acc.length + 1 := by
  unfold stStep
  split <;> simp
theorem fold_len (n : Nat) (xs acc : List ByteArray) : (xs.foldl (stStep n) acc).length ≤ acc.length + xs.length := by
  induction xs generalizing acc with
  | nil => simp
  | cons s xs ih =>
    have := ih (stStep n acc s)
    have := stStep_len n acc s
    simp only [List.foldl_cons, List.length_cons]
    omega
theorem fold_ne (n : Nat) (xs acc : List ByteArray) (h : acc ≠ []) : xs.foldl (stStep n) acc ≠ [] := by
  induction xs generalizing acc with
  | nil => exact h
  | cons s xs ih => exact ih _ (stStep_ne n acc s h)
theorem stUpto_ne (xs : List ByteArray) (n : Nat) : stUpto xs n ≠ [] := by
  induction n with
  | zero => simp [stUpto]
  | succ n ih => exact fold_ne _ _ _ ih
theorem stUpto_len (xs : List ByteArray) (n : Nat) : (stUpto xs n).length ≤ 1 + n * xs.length := by
  induction n with
  | zero => simp [stUpto]
  | succ n ih =>
    have := fold_len (n + 1) xs (stUpto xs n)
    show (xs.foldl (stStep (n + 1)) (stUpto xs n)).length ≤ _
    rw [Nat.succ_mul]
    omega

/-! Texts and their beginnings. -/
theorem tx_beg (s : ByteArray) (n : Nat) : tx (beg s n) = (tx s).take n := by
  simp [tx, beg, ByteArray.data_extract]
theorem beg_size {s : ByteArray} {n : Nat} (h : n ≤ s.size) : (beg s n).size = n := by
  rw [← tx_length, tx_beg, List.length_take, tx_length]
  omega
/-- A text's byte, as a number. -/
def bat (s : ByteArray) (n : Nat) : Int := (((tx s).getD n 0).toNat : Int)
theorem bat_eq {s t : ByteArray} {n : Nat} : bat s n = bat t n ↔ (tx s).getD n 0 = (tx t).getD n 0 := by
  unfold bat
  rw [Int.ofNat_inj, UInt8.toNat_inj]
theorem take_snoc {s : ByteArray} {n : Nat} (h : n < s.size) : (tx s).take (n + 1) = (tx s).take n ++ [(tx s).getD n 0] := by
  have h' : n < (tx s).length := by rw [tx_length]; exact h
  rw [List.take_succ_eq_append_getElem h', List.getD_eq_getElem?_getD, List.getElem?_eq_getElem h']
  rfl
theorem app_lt (p a b : List UInt8) : p ++ a < p ++ b ↔ a < b := by
  induction p with
  | nil => rfl
  | cons x p ih => simp [List.cons_lt_cons_iff, ih, UInt8.lt_irrefl]
/-- Two texts that begin alike, the lesser first: how they go on. -/
theorem next_le {a b : ByteArray} {p : List UInt8} (hlt : tx a < tx b) (ha : p <+: tx a) (hb : p <+: tx b) : p.length < b.size ∧ (p.length < a.size → bat a p.length ≤ bat b p.length) := by
  obtain ⟨a', ha⟩ := ha
  obtain ⟨b', hb⟩ := hb
  have h1 : a' < b' := by rw [← ha, ← hb] at hlt; exact (app_lt p a' b').1 hlt
  have la : a.size = p.length + a'.length := by rw [← tx_length, ← ha, List.length_append]
  have lb : b.size = p.length + b'.length := by rw [← tx_length, ← hb, List.length_append]
  cases b' with
  | nil => exact absurd h1 (List.not_lt_nil _)
  | cons y b' =>
    refine ⟨by rw [lb]; simp, fun h => ?_⟩
    cases a' with
    | nil => simp at la; omega
    | cons x a' =>
      unfold bat
      rw [← ha, ← hb]
      simp only [List.getD_eq_getElem?_getD, List.getElem?_append_right (Nat.le_refl _), Nat.sub_self, List.getElem?_cons_zero, Option.getD_some]
      rcases (List.cons_lt_cons_iff.1 h1) with h | ⟨rfl, _⟩
      · have := UInt8.lt_iff_toNat_lt.1 h
        omega
      · exact Int.le_refl _

/-- Texts in strict order. -/
def Asc (xs : List ByteArray) : Prop := xs.Pairwise fun a b => tx a < tx b
theorem Asc.lt {xs : List ByteArray} (h : Asc xs) {i j : Nat} (hij : i < j) (hj : j < xs.length) : tx (xs[i]'(by omega)) < tx xs[j] := List.pairwise_iff_getElem.1 h i j _ hj hij

/-- A state, as its cells say it. -/
structure TS where
  above : Int
  by_ : Int
  depth : Int
  id : Int
  first : Int
  many : Int
/-- A state whose texts wait. -/
structure TJ where
  st : Int
  lo : Nat
  hi : Nat

/-- The texts that begin so: from lo to hi. -/
structure Rng (xs : List ByteArray) (p : ByteArray) (lo hi : Nat) : Prop where
  le : lo ≤ hi
  len : hi ≤ xs.length
  iff : ∀ t (h : t < xs.length), tx p <+: tx xs[t] ↔ lo ≤ t ∧ t < hi
def Short (xs : List ByteArray) (n lo hi : Nat) : Prop := ∀ t (h : t < xs.length), lo ≤ t → t < hi → xs[t].size < n
def Tiles (xs : List ByteArray) (n : Nat) : Nat → List TJ → Nat → Prop
  | lo, [], hi => lo ≤ hi ∧ Short xs n lo hi
  | lo, j :: r, hi => lo ≤ j.lo ∧ Short xs n lo j.lo ∧ j.lo ≤ j.hi ∧ Tiles xs n j.hi r hi
theorem Tiles.far {xs : List ByteArray} {n : Nat} : ∀ {r : List TJ} {lo hi hi' : Nat}, Tiles xs n lo r hi → hi ≤ hi' → Short xs n hi hi' → Tiles xs n lo r hi'
  | [], lo, hi, hi', h, hl, hs => ⟨Nat.le_trans h.1 hl, fun t ht h1 h2 => by
      rcases Nat.lt_or_ge t hi with h3 | h3
      · exact h.2 t ht h1 h3
      · exact hs t ht h3 h2⟩
  | _ :: _, lo, hi, hi', h, hl, hs => ⟨h.1, h.2.1, h.2.2.1, Tiles.far h.2.2.2 hl hs⟩
theorem Tiles.snoc {xs : List ByteArray} {n : Nat} : ∀ {r : List TJ} {lo hi : Nat} (j : TJ), Tiles xs n lo r hi → j.lo = hi → j.lo ≤ j.hi → Tiles xs n lo (r ++ [j]) j.hi
  | [], lo, hi, j, h, he, hl => ⟨by rw [he]; exact h.1, by rw [he]; exact h.2, hl, Nat.le_refl _, fun t _ h1 h2 => by omega⟩
  | _ :: _, lo, hi, j, h, he, hl => ⟨h.1, h.2.1, h.2.2.1, Tiles.snoc j h.2.2.2 he hl⟩
theorem Tiles.le {xs : List ByteArray} {n : Nat} : ∀ {r : List TJ} {lo hi : Nat}, Tiles xs n lo r hi → lo ≤ hi
  | [], _, _, h => h.1
  | _ :: _, _, _, h => Nat.le_trans h.1 (Nat.le_trans h.2.2.1 (Tiles.le h.2.2.2))
/-- Texts that are shorter add nothing. -/
theorem fold_skip {xs : List ByteArray} {n : Nat} (acc : List ByteArray) {a b : Nat} (hab : a ≤ b) (hs : Short xs n a b) : (xs.take b).foldl (stStep n) acc = (xs.take a).foldl (stStep n) acc := by
  induction b with
  | zero => rw [show a = 0 by omega]
  | succ b ih =>
    rcases Nat.eq_or_lt_of_le hab with rfl | hlt
    · rfl
    · have hi := ih (by omega) (fun t h h1 h2 => hs t h h1 (by omega))
      rcases Nat.lt_or_ge b xs.length with hb | hb
      · rw [List.take_succ_eq_append_getElem hb, List.foldl_append, hi]
        have := hs b hb (by omega) (by omega)
        simp only [List.foldl_cons, List.foldl_nil, stStep]
        rw [if_neg (fun h => by omega)]
      · rw [← hi, List.take_of_length_le (by omega), List.take_of_length_le (by omega)]
/-- Texts that begin with the state that was made last add nothing. -/
theorem fold_same {xs : List ByteArray} {n : Nat} (acc : List ByteArray) {a b : Nat} (hab : a ≤ b) (hb : b ≤ xs.length) (q : ByteArray)
    (hl : ((xs.take a).foldl (stStep n) acc).getLast? = some q) (hs : ∀ t (h : t < xs.length), a ≤ t → t < b → beg xs[t] n = q) : (xs.take b).foldl (stStep n) acc = (xs.take a).foldl (stStep n) acc := by
  induction b with
  | zero => rw [show a = 0 by omega]
  | succ b ih =>
    rcases Nat.eq_or_lt_of_le hab with rfl | hlt
    · rfl
    · have hi := ih (by omega) (by omega) (fun t h h1 h2 => hs t h h1 (by omega))
      have hb' : b < xs.length := by omega
      rw [List.take_succ_eq_append_getElem hb', List.foldl_append, hi]
      have := hs b hb' (by omega) (by omega)
      simp only [List.foldl_cons, List.foldl_nil, stStep]
      rw [if_neg (fun h => h.2 (by rw [hl, this]; rfl))]
end Go.Proofs.Ythgjckibnojnpaa.Pl
namespace Go.Proofs.Ythgjckibnojnpaa.Pl

/-- The number of the text that a state is; -1: none. -/
def IdIs (xs : List ByteArray) (p : ByteArray) (v : Int) : Prop := (∃ t : Nat, v = t ∧ xs[t]? = some p) ∨ v = -1 ∧ p ∉ xs
/-- The states: those below k are finished, those from k2 on are new. -/
structure Tree (xs P : List ByteArray) (sts : List TS) (k k2 : Nat) : Prop where
  len : sts.length = P.length
  root : P[0]? = some ByteArray.empty
  depth : ∀ (i : Nat) (t : TS) (p : ByteArray), sts[i]? = some t → P[i]? = some p → t.depth = p.size
  up : ∀ (i : Nat) (t : TS) (p : ByteArray), 0 < i → sts[i]? = some t → P[i]? = some p → ∃ (a : Nat) (q : ByteArray) (b : UInt8), a < i ∧ t.above = (a : Int) ∧ P[a]? = some q ∧ tx p = tx q ++ [b] ∧ t.by_ = (b.toNat : Int)
  rise : ∀ (i j : Nat) (t u : TS), 0 < i → i < j → sts[i]? = some t → sts[j]? = some u → t.above = u.above → t.by_ < u.by_
  done : ∀ (i : Nat) (t : TS) (p : ByteArray), i < k → sts[i]? = some t → P[i]? = some p → IdIs xs p t.id ∧ ∃ f m : Nat, t.first = (f : Int) ∧ t.many = (m : Int) ∧ 0 < f ∧ f + m ≤ P.length ∧ ∀ (j : Nat) (u : TS), 0 < j → sts[j]? = some u → (u.above = (i : Int) ↔ f ≤ j ∧ j < f + m)
  todo : ∀ (i : Nat) (t : TS), k2 ≤ i → sts[i]? = some t → t.id = -1 ∧ t.many = 0
  low : ∀ (j : Nat) (u : TS), 0 < j → sts[j]? = some u → u.above < (k2 : Int)
/-- The state k, whose texts from lo to hi are parted as far as pos. -/
structure Open (xs P : List ByteArray) (sts : List TS) (k lo hi pos n : Nat) (p : ByteArray) (f m : Nat) (t : TS) : Prop where
  at_ : sts[k]? = some t
  path : P[k]? = some p
  size : p.size = n
  id : IdIs xs p t.id
  first : t.first = (f : Int)
  many : t.many = (m : Int)
  pos0 : 0 < f
  all : f + m = P.length
  kids : ∀ (j : Nat) (u : TS), 0 < j → sts[j]? = some u → (u.above = (k : Int) ↔ f ≤ j)
  rng : Rng xs p lo hi
  from_ : lo ≤ pos
  upto : pos ≤ hi
  made : ∀ (j : Nat) (u : TS), f ≤ j → sts[j]? = some u → ∃ (i : Nat) (h : i < xs.length), lo ≤ i ∧ i < pos ∧ n < xs[i].size ∧ u.by_ = bat xs[i] n
  sep : ∀ (i j : Nat) (hj : j < xs.length) (hi' : i < xs.length), lo ≤ i → i < pos → pos ≤ j → j < hi → n < xs[i].size → bat xs[i] n < bat xs[j] n
  big : ∀ (j : Nat) (hj : j < xs.length), pos ≤ j → j < hi → n < xs[j].size
def JobsOk (xs P : List ByteArray) (n i0 : Nat) (J : List TJ) : Prop := ∀ (r : Nat) (j : TJ), J[r]? = some j → j.st = ((i0 + r : Nat) : Int) ∧ ∃ p, P[i0 + r]? = some p ∧ p.size = n ∧ Rng xs p j.lo j.hi
theorem JobsOk.app {xs P Q : List ByteArray} {n i0 : Nat} {J : List TJ} (h : JobsOk xs P n i0 J) : JobsOk xs (P ++ Q) n i0 J := fun r j hr => by
  obtain ⟨h1, p, h2, h3⟩ := h r j hr
  exact ⟨h1, p, by rw [List.getElem?_append_left (List.getElem?_eq_some_iff.1 h2).1]; exact h2, h3⟩
/-- What is made of the texts ahead of pos, on the level n + 1. -/
def scan (xs : List ByteArray) (n pos : Nat) : List ByteArray := (xs.take pos).foldl (stStep (n + 1)) (stUpto xs n)
/-- Between two states. -/
structure Out (xs : List ByteArray) (sts : List TS) (k n pos : Nat) (J1 J2 : List TJ) : Prop where
  tree : Tree xs (scan xs n pos) sts k k
  t1 : Tiles xs n pos J1 xs.length
  t2 : Tiles xs (n + 1) 0 J2 pos
  j1 : JobsOk xs (scan xs n pos) n k J1
  j2 : JobsOk xs (scan xs n pos) (n + 1) (k + J1.length) J2
  sum : k + J1.length + J2.length = (scan xs n pos).length
  last : J1 = [] → J2 = []
def Outer (xs : List ByteArray) (sts : List TS) (k : Nat) (J : List TJ) : Prop := ∃ n pos J1 J2, J = J1 ++ J2 ∧ Out xs sts k n pos J1 J2
/-- Within a state. -/
structure In (xs : List ByteArray) (sts : List TS) (k n pos lo hi : Nat) (J1 J2 : List TJ) (p : ByteArray) (f m : Nat) (t : TS) : Prop where
  tree : Tree xs (scan xs n pos) sts k (k + 1)
  open_ : Open xs (scan xs n pos) sts k lo hi pos n p f m t
  t1 : Tiles xs n hi J1 xs.length
  t2 : Tiles xs (n + 1) 0 J2 pos
  j1 : JobsOk xs (scan xs n pos) n (k + 1) J1
  j2 : JobsOk xs (scan xs n pos) (n + 1) (k + 1 + J1.length) J2
  sum : k + 1 + J1.length + J2.length = (scan xs n pos).length
def Inner (xs : List ByteArray) (sts : List TS) (k n pos hi : Nat) (J : List TJ) : Prop := ∃ lo J1 J2 p f m t, J = J1 ++ J2 ∧ In xs sts k n pos lo hi J1 J2 p f m t

/-! The beginning. -/
theorem outer_start (xs : List ByteArray) : Outer xs [⟨-1, 0, 0, -1, 0, 0⟩] 0 [⟨0, 0, xs.length⟩] := by
  have hs : scan xs 0 0 = [ByteArray.empty] := by simp [scan, stUpto]
  refine ⟨0, 0, [⟨0, 0, xs.length⟩], [], by simp, ⟨⟨by rw [hs]; rfl, by rw [hs]; rfl, ?_, ?_, ?_, fun i t p hi => by omega, ?_, ?_⟩, ⟨Nat.le_refl _, fun t _ _ h => absurd h (Nat.not_lt_zero _), Nat.zero_le _, Nat.le_refl _, fun t _ h1 h2 => absurd h1 (Nat.not_le_of_lt h2)⟩, ⟨Nat.le_refl _, fun t _ _ h => absurd h (Nat.not_lt_zero _)⟩, ?_, fun r j hr => by simp at hr, by rw [hs]; rfl, fun h => by cases h⟩⟩
  · intro i t p h1 h2
    rw [hs] at h2
    cases i with
    | zero => simp at h1 h2; subst h1; subst h2; rfl
    | succ i => simp at h1
  · intro i t p h0 h1
    cases i with
    | zero => omega
    | succ i => simp at h1
  · intro i j t u h0 h1 h2
    cases i with
    | zero => omega
    | succ i => simp at h2
  · intro i t _ h1
    cases i with
    | zero => simp at h1; subst h1; exact ⟨rfl, rfl⟩
    | succ i => simp at h1
  · intro i t h0 h1
    cases i with
    | zero => omega
    | succ i => simp at h1
  · intro r j hr
    cases r with
    | zero =>
      simp at hr
      subst hr
      refine ⟨rfl, ByteArray.empty, by rw [hs]; rfl, rfl, Nat.zero_le _, Nat.le_refl _, fun t h => ?_⟩
      exact ⟨fun _ => ⟨Nat.zero_le _, h⟩, fun _ => List.nil_prefix⟩
    | succ r => simp at hr

theorem getElem?_set' {α : Type} (l : List α) (k : Nat) (x : α) (i : Nat) (y : α) (h : (l.set k x)[i]? = some y) : (i = k ∧ y = x ∧ k < l.length) ∨ (i ≠ k ∧ l[i]? = some y) := by
  rw [List.getElem?_set] at h
  split at h
  · rename_i e
    subst e
    split at h
    · exact .inl ⟨rfl, (by simpa using h.symm), by assumption⟩
    · cases h
  · exact .inr ⟨fun e => by omega, h⟩

/-- A text that is a state's is the first that begins so. -/
theorem first_is {xs : List ByteArray} (hA : Asc xs) {p : ByteArray} {lo hi : Nat} (hr : Rng xs p lo hi) {t : Nat} (ht : t < xs.length) (h1 : lo < t) (h2 : t < hi) : p.size < xs[t].size := by
  have hl := hr.len
  have hlo : lo < xs.length := by omega
  have := next_le (hA.lt h1 ht) ((hr.iff lo hlo).2 ⟨Nat.le_refl _, by omega⟩) ((hr.iff t ht).2 ⟨by omega, h2⟩)
  rw [tx_length] at this
  exact this.1
theorem eq_of_pre {p s : ByteArray} (h : tx p <+: tx s) (hs : s.size = p.size) : s = p := by
  obtain ⟨r, hr⟩ := h
  have : r = [] := by
    have := congrArg List.length hr
    rw [List.length_append, tx_length, tx_length] at this
    exact List.eq_nil_of_length_eq_zero (by omega)
  rw [this, List.append_nil] at hr
  exact (tx_inj hr).symm

/-! A state is begun. -/
theorem outer_head {xs : List ByteArray} {sts : List TS} {k : Nat} {j : TJ} {J : List TJ} (h : Outer xs sts k (j :: J)) : j.st = (k : Int) ∧ k < sts.length ∧ j.lo ≤ j.hi ∧ j.hi ≤ xs.length := by
  obtain ⟨n, pos, J1, J2, he, h⟩ := h
  cases J1 with
  | nil => rw [h.last rfl] at he; cases he
  | cons j' J1 =>
    injection he with he1 he2
    subst he1
    obtain ⟨h1, p, h2, h3, h4⟩ := h.j1 0 j rfl
    exact ⟨h1, by have := (List.getElem?_eq_some_iff.1 h2).1; rw [h.tree.len]; omega, h4.le, h4.len⟩
theorem outer_open {xs : List ByteArray} (hA : Asc xs) {sts : List TS} {k : Nat} {j : TJ} {J : List TJ} (h : Outer xs sts k (j :: J)) :
    ∃ (n : Nat) (t : TS), sts[k]? = some t ∧ t.depth = n ∧ t.many = 0 ∧ t.id = -1 ∧
      ((j.lo < j.hi ∧ ∃ h : j.lo < xs.length, xs[j.lo].size = n) → Inner xs (sts.set k { t with id := j.lo, first := sts.length }) k n (j.lo + 1) j.hi J) ∧
      ((¬ (j.lo < j.hi ∧ ∃ h : j.lo < xs.length, xs[j.lo].size = n)) → Inner xs (sts.set k { t with first := sts.length }) k n j.lo j.hi J) := by
  obtain ⟨n, pos, J1, J2, he, h⟩ := h
  cases J1 with
  | nil => rw [h.last rfl] at he; cases he
  | cons j' J1 =>
    injection he with he1 he2
    subst he1
    obtain ⟨h1, p, hp, hn, hr⟩ := h.j1 0 j rfl
    rw [Nat.add_zero] at hp
    have hkP : k < (scan xs n pos).length := (List.getElem?_eq_some_iff.1 hp).1
    have hk : k < sts.length := by rw [h.tree.len]; exact hkP
    have ht : sts[k]? = some sts[k] := List.getElem?_eq_getElem hk
    obtain ⟨q1, q2, q3, q4⟩ := h.t1
    have hgap : Short xs (n + 1) pos j.lo := fun t ht h1 h2 => by have := q2 t ht h1 h2; omega
    have hs1 : scan xs n j.lo = scan xs n pos := fold_skip _ q1 hgap
    have htodo := h.tree.todo k sts[k] (Nat.le_refl _) ht
    have hlo : k + 1 + J1.length + J2.length = (scan xs n pos).length := by have := h.sum; simp only [List.length_cons] at this; omega
    have hP0 : 0 < (scan xs n pos).length := by omega
    have main : ∀ (v : Int) (pos' : Nat), IdIs xs p v → scan xs n pos' = scan xs n pos → j.lo ≤ pos' → pos' ≤ j.hi → (∀ i (hi : i < xs.length), j.lo ≤ i → i < pos' → xs[i].size = n) → (∀ i (hi : i < xs.length), pos' ≤ i → i < j.hi → n < xs[i].size) →
        Inner xs (sts.set k { sts[k] with id := v, first := sts.length }) k n pos' j.hi J := by
      intro v pos' hv hsc hl1 hl2 heq hbig
      refine ⟨j.lo, J1, J2, p, sts.length, 0, { sts[k] with id := v, first := sts.length }, he2, ⟨?_, ?_, q4, ?_, ?_, ?_, ?_⟩⟩
      · rw [hsc]
        have T := h.tree
        refine ⟨by rw [List.length_set]; exact T.len, T.root, ?_, ?_, ?_, ?_, ?_, ?_⟩
        · intro i t q h1 h2
          rcases getElem?_set' _ _ _ _ _ h1 with ⟨rfl, rfl, _⟩ | ⟨_, h3⟩
          · exact T.depth i sts[i] q ht h2
          · exact T.depth i t q h3 h2
        · intro i t q h0 h1 h2
          rcases getElem?_set' _ _ _ _ _ h1 with ⟨rfl, rfl, _⟩ | ⟨_, h3⟩
          · exact T.up i sts[i] q h0 ht h2
          · exact T.up i t q h0 h3 h2
        · intro i i' t u h0 hlt h1 h2 h3
          rcases getElem?_set' _ _ _ _ _ h1 with ⟨rfl, rfl, _⟩ | ⟨_, h4⟩ <;> rcases getElem?_set' _ _ _ _ _ h2 with ⟨e, rfl, _⟩ | ⟨_, h5⟩
          · omega
          · exact T.rise i i' sts[i] u h0 hlt ht h5 h3
          · subst e
            exact T.rise i i' t sts[i'] h0 hlt h4 ht h3
          · exact T.rise i i' t u h0 hlt h4 h5 h3
        · intro i t q hik h1 h2
          rcases getElem?_set' _ _ _ _ _ h1 with ⟨e, _, _⟩ | ⟨_, h3⟩
          · omega
          · obtain ⟨d1, f, m, d2, d3, d4, d5, d6⟩ := T.done i t q hik h3 h2
            refine ⟨d1, f, m, d2, d3, d4, d5, fun i' u h0 hu => ?_⟩
            rcases getElem?_set' _ _ _ _ _ hu with ⟨rfl, rfl, _⟩ | ⟨_, h4⟩
            · exact d6 i' sts[i'] h0 ht
            · exact d6 i' u h0 h4
        · intro i t hik h1
          rcases getElem?_set' _ _ _ _ _ h1 with ⟨e, _, _⟩ | ⟨_, h3⟩
          · omega
          · exact T.todo i t (by omega) h3
        · intro i u h0 h1
          rcases getElem?_set' _ _ _ _ _ h1 with ⟨rfl, rfl, _⟩ | ⟨_, h3⟩
          · have := T.low i sts[i] h0 ht
            show sts[i].above < _
            omega
          · have := T.low i u h0 h3
            omega
      · rw [hsc]
        refine ⟨by rw [List.getElem?_set_self hk], hp, hn, hv, rfl, htodo.2, by omega, h.tree.len, ?_, hr, hl1, hl2, ?_, ?_, hbig⟩
        · intro i u h0 h1
          rcases getElem?_set' _ _ _ _ _ h1 with ⟨rfl, rfl, _⟩ | ⟨_, h3⟩
          · have := h.tree.low i sts[i] h0 ht
            constructor
            · intro e
              replace e : sts[i].above = i := e
              omega
            · intro e; omega
          · have := h.tree.low i u h0 h3
            have := (List.getElem?_eq_some_iff.1 h3).1
            constructor
            · intro e; omega
            · intro e; omega
        · intro i u h0 h1
          have := (List.getElem?_eq_some_iff.1 h1).1
          rw [List.length_set] at this
          omega
        · intro i i' hj hi' h0 h1 _ _ h2
          have := heq i hi' h0 h1
          omega
      · refine Tiles.far h.t2 (by omega) (fun i hi h1 h2 => ?_)
        rcases Nat.lt_or_ge i j.lo with h3 | h3
        · have := q2 i hi h1 h3; omega
        · have := heq i hi h3 h2; omega
      · rw [hsc]
        intro r j' hr'
        have := h.j1 (r + 1) j' (by simpa using hr')
        rw [show k + 1 + r = k + (r + 1) by omega]
        exact this
      · rw [hsc]
        have := h.j2
        rw [List.length_cons] at this
        rw [show k + 1 + J1.length = k + (J1.length + 1) by omega]
        exact this
      · rw [hsc]; exact hlo
    have hL := hr.len
    refine ⟨n, sts[k], ht, ?_, htodo.2, htodo.1, ?_, ?_⟩
    · rw [h.tree.depth k _ p ht hp, hn]
    · rintro ⟨g1, g2, g3⟩
      refine main j.lo (j.lo + 1) (.inl ⟨j.lo, rfl, ?_⟩) ?_ (by omega) (by omega) ?_ ?_
      · rw [List.getElem?_eq_getElem g2, eq_of_pre ((hr.iff j.lo g2).2 ⟨Nat.le_refl _, g1⟩) (by omega)]
      · rw [← hs1]
        refine fold_skip _ (by omega) (fun i hi h1 h2 => ?_)
        obtain rfl : i = j.lo := by omega
        omega
      · intro i hi h1 h2
        obtain rfl : i = j.lo := by omega
        exact g3
      · intro i hi h1 h2
        have := first_is hA hr hi (by omega) h2
        omega
    · intro g
      have hbig : ∀ i (hi : i < xs.length), j.lo ≤ i → i < j.hi → n < xs[i].size := by
        intro i hi h1 h2
        have hpi := (hr.iff i hi).2 ⟨h1, h2⟩
        have hle := hpi.length_le
        rw [tx_length, tx_length] at hle
        rcases Nat.eq_or_lt_of_le h1 with e | h3
        · subst e
          rcases Nat.lt_or_ge n xs[j.lo].size with h4 | h4
          · exact h4
          · exact absurd ⟨h2, hi, by omega⟩ g
        · have := first_is hA hr hi h3 h2
          omega
      have := main (-1) j.lo (.inr ⟨rfl, fun hm => ?_⟩) hs1 (Nat.le_refl _) hr.le (fun i hi h1 h2 => by omega) hbig
      · rw [show ({ sts[k] with first := (sts.length : Int) } : TS) = { sts[k] with id := -1, first := (sts.length : Int) } by rw [← htodo.1]]
        exact this
      · obtain ⟨i, hi, rfl⟩ := List.getElem_of_mem hm
        obtain ⟨h1, h2⟩ := (hr.iff i hi).1 List.prefix_rfl
        have := hbig i hi h1 h2
        omega
end Go.Proofs.Ythgjckibnojnpaa.Pl
namespace Go.Proofs.Ythgjckibnojnpaa.Pl

theorem tree_ne {xs P : List ByteArray} {sts : List TS} {k k2 : Nat} (T : Tree xs P sts k k2) : ∀ (M i j : Nat), i < j → j ≤ M → ∀ p, P[i]? = some p → P[j]? = some p → False := by
  intro M
  induction M with
  | zero => intro i j h1 h2; omega
  | succ M ih =>
    intro i j h1 h2 p hp hq
    have hj := (List.getElem?_eq_some_iff.1 hq).1
    have hsj : sts[j]? = some (sts[j]'(by rw [T.len]; exact hj)) := List.getElem?_eq_getElem _
    have hsi : sts[i]? = some (sts[i]'(by rw [T.len]; omega)) := List.getElem?_eq_getElem _
    obtain ⟨a, q, b, u1, u2, u3, u4, u5⟩ := T.up j _ p (by omega) hsj hq
    rcases Nat.eq_zero_or_pos i with rfl | h0
    · rw [T.root] at hp
      injection hp with hp
      have := congrArg List.length u4
      rw [← hp] at this
      simp at this
    · obtain ⟨a', q', b', v1, v2, v3, v4, v5⟩ := T.up i _ p h0 hsi hp
      rw [u4] at v4
      obtain ⟨e1, e2⟩ := List.append_inj' v4 rfl
      have e1 := tx_inj e1
      subst e1
      rcases Nat.lt_trichotomy a' a with h | h | h
      · exact ih a' a h (by omega) q v3 u3
      · subst h
        have := T.rise i j _ _ h0 h1 hsi hsj (by rw [v2, u2])
        rw [u5, v5] at this
        injection e2 with e2
        rw [e2] at this
        omega
      · exact ih a a' h (by omega) q u3 v3
theorem tree_inj {xs P : List ByteArray} {sts : List TS} {k k2 : Nat} (T : Tree xs P sts k k2) {i j : Nat} {p : ByteArray} (hi : P[i]? = some p) (hj : P[j]? = some p) : i = j := by
  rcases Nat.lt_trichotomy i j with h | h | h
  · exact (tree_ne T j i j h (Nat.le_refl _) p hi hj).elim
  · exact h
  · exact (tree_ne T i j i h (Nat.le_refl _) p hj hi).elim

/-- A state's id, first and many are written. -/
theorem Tree.set_ {xs P : List ByteArray} {sts : List TS} {k k2 : Nat} (T : Tree xs P sts k k2) {t t' : TS} (hk : k < k2) (ht : sts[k]? = some t) (e1 : t'.above = t.above) (e2 : t'.by_ = t.by_) (e3 : t'.depth = t.depth) : Tree xs P (sts.set k t') k k2 := by
  refine ⟨by rw [List.length_set]; exact T.len, T.root, ?_, ?_, ?_, ?_, ?_, ?_⟩
  · intro i u q h1 h2
    rcases getElem?_set' _ _ _ _ _ h1 with ⟨rfl, rfl, _⟩ | ⟨_, h3⟩
    · rw [e3]; exact T.depth i t q ht h2
    · exact T.depth i u q h3 h2
  · intro i u q h0 h1 h2
    rcases getElem?_set' _ _ _ _ _ h1 with ⟨rfl, rfl, _⟩ | ⟨_, h3⟩
    · rw [e1, e2]; exact T.up i t q h0 ht h2
    · exact T.up i u q h0 h3 h2
  · intro i i' u u' h0 hlt h1 h2 h3
    rcases getElem?_set' _ _ _ _ _ h1 with ⟨rfl, rfl, _⟩ | ⟨_, h4⟩ <;> rcases getElem?_set' _ _ _ _ _ h2 with ⟨e, rfl, _⟩ | ⟨_, h5⟩
    · omega
    · rw [e2]; exact T.rise i i' t u' h0 hlt ht h5 (by rw [← e1]; exact h3)
    · subst e
      rw [e2]; exact T.rise i i' u t h0 hlt h4 ht (by rw [← e1]; exact h3)
    · exact T.rise i i' u u' h0 hlt h4 h5 h3
  · intro i u q hik h1 h2
    rcases getElem?_set' _ _ _ _ _ h1 with ⟨e, _, _⟩ | ⟨_, h3⟩
    · omega
    · obtain ⟨d1, f, m, d2, d3, d4, d5, d6⟩ := T.done i u q hik h3 h2
      refine ⟨d1, f, m, d2, d3, d4, d5, fun i' u' h0 hu => ?_⟩
      rcases getElem?_set' _ _ _ _ _ hu with ⟨rfl, rfl, _⟩ | ⟨_, h4⟩
      · rw [e1]; exact d6 i' t h0 ht
      · exact d6 i' u' h0 h4
  · intro i u hik h1
    rcases getElem?_set' _ _ _ _ _ h1 with ⟨e, _, _⟩ | ⟨_, h3⟩
    · omega
    · exact T.todo i u hik h3
  · intro i u h0 h1
    rcases getElem?_set' _ _ _ _ _ h1 with ⟨rfl, rfl, _⟩ | ⟨_, h3⟩
    · rw [e1]; exact T.low i t h0 ht
    · exact T.low i u h0 h3
theorem snoc_at {α : Type} {l : List α} {x y : α} {i : Nat} (h : (l ++ [x])[i]? = some y) : (i < l.length ∧ l[i]? = some y) ∨ (i = l.length ∧ y = x) := by
  rcases Nat.lt_or_ge i l.length with h1 | h1
  · rw [List.getElem?_append_left h1] at h
    exact .inl ⟨h1, h⟩
  · rw [List.getElem?_append_right h1] at h
    have := (List.getElem?_eq_some_iff.1 h).1
    simp at this
    have e : i = l.length := by omega
    subst e
    simp at h
    exact .inr ⟨rfl, h.symm⟩
/-- A state is put behind the others, below k. -/
theorem Tree.push {xs P : List ByteArray} {sts : List TS} {k : Nat} (T : Tree xs P sts k (k + 1)) {p q : ByteArray} {b : UInt8} {t : TS} {f : Nat} (hp : P[k]? = some p) (hq : tx q = tx p ++ [b])
    (h1 : t.above = (k : Int)) (h2 : t.by_ = (b.toNat : Int)) (h3 : t.depth = q.size) (h4 : t.id = -1) (h5 : t.many = 0) (hr : ∀ (i : Nat) (u : TS), 0 < i → sts[i]? = some u → u.above = (k : Int) → u.by_ < t.by_) : Tree xs (P ++ [q]) (sts ++ [t]) k (k + 1) := by
  have hkP := (List.getElem?_eq_some_iff.1 hp).1
  have hl := T.len
  refine ⟨by simp [hl], by rw [List.getElem?_append_left (by omega)]; exact T.root, ?_, ?_, ?_, ?_, ?_, ?_⟩
  · intro i u r g1 g2
    rcases snoc_at g1 with ⟨l1, a1⟩ | ⟨rfl, rfl⟩ <;> rcases snoc_at g2 with ⟨l2, a2⟩ | ⟨e2, rfl⟩
    · exact T.depth i u r a1 a2
    · omega
    · omega
    · exact h3
  · intro i u r h0 g1 g2
    rcases snoc_at g1 with ⟨l1, a1⟩ | ⟨rfl, rfl⟩ <;> rcases snoc_at g2 with ⟨l2, a2⟩ | ⟨e2, rfl⟩
    · obtain ⟨a, q', b', u1, u2, u3, u4, u5⟩ := T.up i u r h0 a1 a2
      exact ⟨a, q', b', u1, u2, by rw [List.getElem?_append_left (by omega)]; exact u3, u4, u5⟩
    · omega
    · omega
    · exact ⟨k, p, b, by omega, h1, by rw [List.getElem?_append_left hkP]; exact hp, hq, h2⟩
  · intro i j u v h0 hlt g1 g2 he
    rcases snoc_at g1 with ⟨l1, a1⟩ | ⟨rfl, rfl⟩ <;> rcases snoc_at g2 with ⟨l2, a2⟩ | ⟨e2, rfl⟩
    · exact T.rise i j u v h0 hlt a1 a2 he
    · exact hr i u h0 a1 (by rw [he]; exact h1)
    · omega
    · omega
  · intro i u r hik g1 g2
    rcases snoc_at g1 with ⟨l1, a1⟩ | ⟨rfl, rfl⟩ <;> rcases snoc_at g2 with ⟨l2, a2⟩ | ⟨e2, rfl⟩
    · obtain ⟨d1, f, m, d2, d3, d4, d5, d6⟩ := T.done i u r hik a1 a2
      refine ⟨d1, f, m, d2, d3, d4, by simp; omega, fun j v h0 hv => ?_⟩
      rcases snoc_at hv with ⟨l1, b1⟩ | ⟨rfl, rfl⟩
      · exact d6 j v h0 b1
      · rw [h1]
        constructor
        · intro e; omega
        · intro e; omega
    · omega
    · omega
    · omega
  · intro i u hik g1
    rcases snoc_at g1 with ⟨l1, a1⟩ | ⟨rfl, rfl⟩
    · exact T.todo i u hik a1
    · exact ⟨h4, h5⟩
  · intro j u h0 g1
    rcases snoc_at g1 with ⟨l1, a1⟩ | ⟨rfl, rfl⟩
    · exact T.low j u h0 a1
    · rw [h1]; omega

theorem inner_group {xs : List ByteArray} (hA : Asc xs) {sts : List TS} {k n pos hi : Nat} {J : List TJ} (h : Inner xs sts k n pos hi J) {to : Nat} (h1 : pos < to) (h2 : to ≤ hi) (c : Int)
    (hsame : ∀ i (hx : i < xs.length), pos ≤ i → i < to → bat xs[i] n = c) (hnext : ∀ (hx : to < xs.length), to < hi → bat xs[to] n ≠ c) :
    ∃ t, sts[k]? = some t ∧ Inner xs ((sts ++ [(⟨k, c, n + 1, -1, 0, 0⟩ : TS)]).set k { t with many := t.many + 1 }) k n to hi (J ++ [(⟨sts.length, pos, to⟩ : TJ)]) := by
  obtain ⟨lo, J1, J2, p, f, m, t, rfl, h⟩ := h
  have O := h.open_
  have T := h.tree
  have hLen := O.rng.len
  have hpx : pos < xs.length := by omega
  have hkP := (List.getElem?_eq_some_iff.1 O.path).1
  have hl := T.len
  have hfrom := O.from_
  have pre : ∀ i (hx : i < xs.length), lo ≤ i → i < hi → (tx xs[i]).take n = tx p := by
    intro i hx g1 g2
    obtain ⟨r, hr⟩ := (O.rng.iff i hx).2 ⟨g1, g2⟩
    rw [← hr, List.take_left' (by rw [tx_length]; exact O.size)]
  have hsz : n < xs[pos].size := O.big pos hpx (Nat.le_refl _) (by omega)
  have hc : c = bat xs[pos] n := (hsame pos hpx (Nat.le_refl _) h1).symm
  have hq : tx (beg xs[pos] (n + 1)) = tx p ++ [(tx xs[pos]).getD n 0] := by
    rw [tx_beg, take_snoc hsz, pre pos hpx hfrom (by omega)]
  -- what comes next rises
  have gt : ∀ i (hx : i < xs.length), to ≤ i → i < hi → c < bat xs[i] n := by
    intro i hx g1 g2
    have hto : to < xs.length := by omega
    have n1 := hnext hto (by omega)
    have ho := next_le (hA.lt h1 hto) ((O.rng.iff pos hpx).2 ⟨hfrom, by omega⟩) ((O.rng.iff to hto).2 ⟨by omega, by omega⟩)
    rw [tx_length, O.size] at ho
    have ho2 := ho.2 hsz
    rcases Nat.eq_or_lt_of_le g1 with rfl | g3
    · omega
    · have hp := next_le (hA.lt g3 hx) ((O.rng.iff to hto).2 ⟨by omega, by omega⟩) ((O.rng.iff i hx).2 ⟨by omega, by omega⟩)
      rw [tx_length, O.size] at hp
      have := hp.2 ho.1
      omega
  -- the state that is made
  have hstep : scan xs n (pos + 1) = scan xs n pos ++ [beg xs[pos] (n + 1)] := by
    unfold scan
    rw [List.take_succ_eq_append_getElem hpx, List.foldl_append]
    show stStep (n + 1) (scan xs n pos) xs[pos] = _
    unfold stStep
    rw [if_pos]
    · rfl
    refine ⟨hsz, fun he => ?_⟩
    have hNe : (scan xs n pos)[(scan xs n pos).length - 1]? = some (beg xs[pos] (n + 1)) := by
      rw [← List.getLast?_eq_getElem?]
      rw [List.getLast?_eq_getElem?] at he ⊢
      rw [List.getElem?_eq_getElem (by omega)] at he ⊢
      rw [he]; rfl
    have hN0 : 0 < (scan xs n pos).length - 1 := by
      rcases Nat.eq_zero_or_pos ((scan xs n pos).length - 1) with e | e
      · rw [e, T.root] at hNe
        injection hNe with hNe
        have := congrArg List.length hq
        rw [← hNe] at this
        simp at this
      · exact e
    have hsl : sts[(scan xs n pos).length - 1]? = some (sts[(scan xs n pos).length - 1]'(by omega)) := List.getElem?_eq_getElem _
    obtain ⟨a, q, b, u1, u2, u3, u4, u5⟩ := T.up _ _ _ hN0 hsl hNe
    rw [hq] at u4
    obtain ⟨e1, e2⟩ := List.append_inj' u4 rfl
    have e1 := tx_inj e1
    subst e1
    have hak : a = k := tree_inj T u3 O.path
    subst hak
    have hf := (O.kids _ _ hN0 hsl).1 u2
    obtain ⟨i, hx, g1, g2, g3, g4⟩ := O.made _ _ hf hsl
    have := O.sep i pos hpx hx g1 g2 (Nat.le_refl _) (by omega) g3
    injection e2 with e2
    rw [← g4, u5, ← e2] at this
    exact absurd this (Int.lt_irrefl _)
  have hscan : scan xs n to = scan xs n pos ++ [beg xs[pos] (n + 1)] := by
    rw [← hstep]
    refine fold_same _ (by omega) (by omega) (beg xs[pos] (n + 1)) ?_ ?_
    · show (scan xs n (pos + 1)).getLast? = _
      rw [hstep]; simp
    · intro i hx g1 g2
      apply tx_inj
      rw [hq, tx_beg, take_snoc (O.big i hx (by omega) (by omega)), pre i hx (by omega) (by omega)]
      have := hsame i hx (by omega) g2
      rw [hc] at this
      rw [bat_eq.1 this]
  have hkl : k < sts.length := by omega
  have hkids : ∀ (i : Nat) (u : TS), 0 < i → sts[i]? = some u → u.above = (k : Int) → u.by_ < c := by
    intro i u h0 hu he
    have hf := (O.kids i u h0 hu).1 he
    obtain ⟨i', hx, g1, g2, g3, g4⟩ := O.made i u hf hu
    rw [g4, hc]
    exact O.sep i' pos hpx hx g1 g2 (Nat.le_refl _) (by omega) g3
  have hqs : (beg xs[pos] (n + 1)).size = n + 1 := beg_size hsz
  have T1 : Tree xs (scan xs n to) (sts ++ [⟨k, c, n + 1, -1, 0, 0⟩]) k (k + 1) := by
    rw [hscan]
    exact T.push (f := f) O.path hq rfl hc (by rw [hqs]; rfl) rfl rfl hkids
  have hat1 : (sts ++ [(⟨k, c, n + 1, -1, 0, 0⟩ : TS)])[k]? = some t := by rw [List.getElem?_append_left hkl]; exact O.at_
  have hallr := O.all
  refine ⟨t, O.at_, lo, J1, J2 ++ [⟨sts.length, pos, to⟩], p, f, m + 1, { t with many := t.many + 1 }, by rw [List.append_assoc], ⟨T1.set_ (by omega) hat1 rfl rfl rfl, ⟨?_, ?_, O.size, O.id, O.first, ?_, O.pos0, ?_, ?_, O.rng, by omega, h2, ?_, ?_, ?_⟩, h.t1, ?_, ?_, ?_, ?_⟩⟩
  · rw [List.getElem?_set_self (by simp; omega)]
  · rw [hscan, List.getElem?_append_left hkP]; exact O.path
  · show t.many + 1 = _
    rw [O.many]; rfl
  · rw [hscan]; simp; omega
  · intro j u h0 hu
    rcases getElem?_set' _ _ _ _ _ hu with ⟨rfl, rfl, _⟩ | ⟨_, h3⟩
    · exact O.kids j t h0 O.at_
    · rcases snoc_at h3 with ⟨_, a1⟩ | ⟨rfl, rfl⟩
      · exact O.kids j u h0 a1
      · exact ⟨fun _ => by omega, fun _ => rfl⟩
  · intro j u hf hu
    rcases getElem?_set' _ _ _ _ _ hu with ⟨rfl, rfl, _⟩ | ⟨_, h3⟩
    · obtain ⟨i, hx, g1, g2, g3, g4⟩ := O.made j t hf O.at_
      exact ⟨i, hx, g1, by omega, g3, g4⟩
    · rcases snoc_at h3 with ⟨_, a1⟩ | ⟨rfl, rfl⟩
      · obtain ⟨i, hx, g1, g2, g3, g4⟩ := O.made j u hf a1
        exact ⟨i, hx, g1, by omega, g3, g4⟩
      · exact ⟨pos, hpx, hfrom, h1, hsz, hc⟩
  · intro i j hj hx g1 g2 g3 g4 g5
    rcases Nat.lt_or_ge i pos with g6 | g6
    · exact O.sep i j hj hx g1 g6 (by omega) g4 g5
    · rw [hsame i hx g6 g2]
      exact gt j hj g3 g4
  · intro j hj g1 g2
    exact O.big j hj (by omega) g2
  · exact Tiles.snoc ⟨sts.length, pos, to⟩ h.t2 rfl (Nat.le_of_lt h1)
  · rw [hscan]; exact h.j1.app
  · rw [hscan]
    intro r j hr
    rcases snoc_at hr with ⟨_, a1⟩ | ⟨rfl, rfl⟩
    · exact h.j2.app r j a1
    · have hsum := h.sum
      refine ⟨by simp; omega, beg xs[pos] (n + 1), ?_, hqs, ⟨Nat.le_of_lt h1, by show to ≤ _; omega, fun i hx => ⟨fun hp => ?_, fun hp => ?_⟩⟩⟩
      · rw [show k + 1 + J1.length + J2.length = (scan xs n pos).length by omega, List.getElem?_append_right (Nat.le_refl _), Nat.sub_self]
        rfl
      · rw [hq] at hp
        obtain ⟨g1, g2⟩ := (O.rng.iff i hx).1 ((List.prefix_append _ _).trans hp)
        have hle := hp.length_le
        rw [List.length_append, tx_length, tx_length, O.size, List.length_singleton] at hle
        obtain ⟨r, hr⟩ := hp
        have hb : bat xs[i] n = c := by
          rw [hc]
          refine bat_eq.2 ?_
          rw [← hr]
          have hn : n = (tx p).length := by rw [tx_length]; exact O.size.symm
          simp only [List.getD_eq_getElem?_getD]
          rw [List.append_assoc, List.getElem?_append_right (by omega), hn, Nat.sub_self]
          rfl
        show pos ≤ i ∧ i < to
        refine ⟨?_, ?_⟩
        · rcases Nat.lt_or_ge i pos with g3 | g3
          · have := O.sep i pos hpx hx g1 g3 (Nat.le_refl _) (by omega) (by omega)
            omega
          · exact g3
        · rcases Nat.lt_or_ge i to with g3 | g3
          · exact g3
          · have := gt i hx g3 g2
            omega
      · obtain ⟨g1, g2⟩ : pos ≤ i ∧ i < to := hp
        rw [hq]
        have := take_snoc (O.big i hx g1 (by omega))
        rw [pre i hx (by omega) (by omega)] at this
        have e := hsame i hx g1 g2
        rw [hc] at e
        rw [← bat_eq.1 e, ← this]
        exact List.take_prefix _ _
  · rw [hscan]
    have := h.sum
    simp
    omega

theorem inner_close {xs : List ByteArray} {sts : List TS} {k n hi : Nat} {J : List TJ} (h : Inner xs sts k n hi hi J) : Outer xs sts (k + 1) J := by
  obtain ⟨lo, J1, J2, p, f, m, t, rfl, h⟩ := h
  have O := h.open_
  have T := h.tree
  have hT : Tree xs (scan xs n hi) sts (k + 1) (k + 1) := by
    refine ⟨T.len, T.root, T.depth, T.up, T.rise, ?_, T.todo, T.low⟩
    intro i u q hik h1 h2
    rcases Nat.lt_or_ge i k with h3 | h3
    · exact T.done i u q h3 h1 h2
    · obtain rfl : i = k := by omega
      rw [O.at_] at h1
      injection h1 with h1
      subst h1
      rw [O.path] at h2
      injection h2 with h2
      subst h2
      refine ⟨O.id, f, m, O.first, O.many, O.pos0, by rw [O.all]; exact Nat.le_refl _, fun j u h0 hu => ?_⟩
      rw [O.kids j u h0 hu]
      have := (List.getElem?_eq_some_iff.1 hu).1
      rw [T.len, ← O.all] at this
      exact ⟨fun h => ⟨h, this⟩, fun h => h.1⟩
  by_cases hJ : J1 = []
  · subst hJ
    have ht1 : hi ≤ xs.length ∧ Short xs n hi xs.length := h.t1
    have hs : Short xs (n + 1) hi xs.length := fun i hx g1 g2 => by have := ht1.2 i hx g1 g2; omega
    have hsc : scan xs (n + 1) 0 = scan xs n hi := by
      have e1 : scan xs (n + 1) 0 = scan xs n xs.length := by
        unfold scan
        rw [List.take_zero, List.take_length]
        rfl
      rw [e1]
      exact fold_skip _ ht1.1 hs
    refine ⟨n + 1, 0, J2, [], by simp, ⟨by rw [hsc]; exact hT, Tiles.far h.t2 ht1.1 hs, ⟨Nat.le_refl _, fun i _ _ g => by omega⟩, ?_, fun r j hr => by simp at hr, ?_, fun _ => rfl⟩⟩
    · rw [hsc]; exact h.j2
    · rw [hsc]; have := h.sum; simpa using this
  · exact ⟨n, hi, J1, J2, rfl, ⟨hT, h.t1, h.t2, h.j1, h.j2, h.sum, fun e => absurd e hJ⟩⟩

/-! How many there are. -/
def tot (xs : List ByteArray) : Nat := (xs.map ByteArray.size).sum
theorem fold_cnt (n : Nat) (xs acc : List ByteArray) : (xs.foldl (stStep (n + 1)) acc).length ≤ acc.length + (xs.map fun s => min (n + 1) s.size - min n s.size).sum := by
  induction xs generalizing acc with
  | nil => simp
  | cons s xs ih =>
    have h1 := ih (stStep (n + 1) acc s)
    have h2 : (stStep (n + 1) acc s).length ≤ acc.length + (min (n + 1) s.size - min n s.size) := by
      unfold stStep
      split
      · rename_i h
        simp
        omega
      · omega
    simp only [List.foldl_cons, List.map_cons, List.sum_cons]
    omega
theorem sum_split (n : Nat) (xs : List ByteArray) : (xs.map fun s => min n s.size).sum + (xs.map fun s => min (n + 1) s.size - min n s.size).sum = (xs.map fun s => min (n + 1) s.size).sum := by
  induction xs with
  | nil => rfl
  | cons s xs ih => simp only [List.map_cons, List.sum_cons]; omega
theorem sum_take (f : ByteArray → Nat) (xs : List ByteArray) (k : Nat) : ((xs.take k).map f).sum ≤ (xs.map f).sum := by
  induction xs generalizing k with
  | nil => simp
  | cons s xs ih =>
    cases k with
    | zero => simp
    | succ k => have := ih k; simp only [List.take_succ_cons, List.map_cons, List.sum_cons]; omega
theorem sum_min (n : Nat) (xs : List ByteArray) : (xs.map fun s => min n s.size).sum ≤ tot xs := by
  unfold tot
  induction xs with
  | nil => simp
  | cons s xs ih => simp only [List.map_cons, List.sum_cons]; omega
theorem stUpto_cnt (xs : List ByteArray) (n : Nat) : (stUpto xs n).length ≤ 1 + (xs.map fun s => min n s.size).sum := by
  induction n with
  | zero => simp [stUpto]
  | succ n ih =>
    have h1 := fold_cnt n xs (stUpto xs n)
    have h2 := sum_split n xs
    show (xs.foldl (stStep (n + 1)) (stUpto xs n)).length ≤ _
    omega
theorem scan_cnt (xs : List ByteArray) (n pos : Nat) : (scan xs n pos).length ≤ 1 + tot xs := by
  have h1 := fold_cnt n (xs.take pos) (stUpto xs n)
  have h2 := sum_take (fun s => min (n + 1) s.size - min n s.size) xs pos
  have h3 := sum_split n xs
  have h4 := sum_min (n + 1) xs
  have h5 := stUpto_cnt xs n
  unfold scan
  omega
theorem outer_cnt {xs : List ByteArray} {sts : List TS} {k : Nat} {J : List TJ} (h : Outer xs sts k J) : sts.length ≤ 1 + tot xs ∧ k + J.length = sts.length := by
  obtain ⟨n, pos, J1, J2, rfl, h⟩ := h
  have := h.sum
  rw [h.tree.len]
  exact ⟨scan_cnt _ _ _, by rw [List.length_append]; omega⟩
theorem inner_cnt {xs : List ByteArray} {sts : List TS} {k n pos hi : Nat} {J : List TJ} (h : Inner xs sts k n pos hi J) : sts.length ≤ 1 + tot xs ∧ k + 1 + J.length = sts.length ∧ pos ≤ hi ∧ hi ≤ xs.length ∧ ∀ (i : Nat) (hx : i < xs.length), pos ≤ i → i < hi → n < xs[i].size := by
  obtain ⟨lo, J1, J2, p, f, m, t, rfl, h⟩ := h
  have := h.sum
  rw [h.tree.len]
  exact ⟨scan_cnt _ _ _, by rw [List.length_append]; omega, h.open_.upto, h.open_.rng.len, h.open_.big⟩

theorem inner_at {xs : List ByteArray} {sts : List TS} {k n pos hi : Nat} {J : List TJ} (h : Inner xs sts k n pos hi J) : ∃ (t : TS) (m : Nat), sts[k]? = some t ∧ t.many = (m : Int) ∧ m ≤ sts.length := by
  obtain ⟨lo, J1, J2, p, f, m, t, rfl, h⟩ := h
  have := h.open_.all
  have := h.tree.len
  exact ⟨t, m, h.open_.at_, h.open_.many, by omega⟩

/-! The end. -/
theorem longest_le_of {xs : List ByteArray} {n : Nat} (h : ∀ s ∈ xs, s.size ≤ n) : longest xs ≤ n := by
  unfold longest
  have : ∀ (ys : List ByteArray) (m : Nat), m ≤ n → (∀ s ∈ ys, s.size ≤ n) → ys.foldl (fun m s => max m s.size) m ≤ n := by
    intro ys
    induction ys with
    | nil => intro m hm _; exact hm
    | cons s ys ih =>
      intro m hm hs
      have := hs s (by simp)
      exact ih _ (show max m s.size ≤ n by omega) (fun s hs' => hs s (by simp [hs']))
  exact this xs 0 (Nat.zero_le _) h
theorem le_longest {xs : List ByteArray} : ∀ s ∈ xs, s.size ≤ longest xs := by
  unfold longest
  have : ∀ (ys : List ByteArray) (m : Nat), m ≤ ys.foldl (fun m s => max m s.size) m ∧ ∀ s ∈ ys, s.size ≤ ys.foldl (fun m s => max m s.size) m := by
    intro ys
    induction ys with
    | nil => intro m; simp
    | cons s ys ih =>
      intro m
      obtain ⟨h1, h2⟩ := ih (max m s.size)
      refine ⟨?_, fun s' hs' => ?_⟩
      · simp only [List.foldl_cons]; omega
      · rcases List.mem_cons.1 hs' with rfl | hs'
        · simp only [List.foldl_cons]; omega
        · exact h2 s' hs'
  exact (this xs 0).2
theorem stUpto_stay {xs : List ByteArray} {n : Nat} (d : Nat) (h : ∀ s ∈ xs, s.size ≤ n) : stUpto xs (n + d) = stUpto xs n := by
  induction d with
  | zero => rfl
  | succ d ih =>
    rw [← ih]
    show xs.foldl (stStep (n + d + 1)) (stUpto xs (n + d)) = _
    have := fold_skip (n := n + d + 1) (stUpto xs (n + d)) (a := 0) (b := xs.length) (xs := xs) (Nat.zero_le _) (fun t ht _ _ => by have := h _ (List.getElem_mem ht); omega)
    rw [List.take_length, List.take_zero] at this
    exact this
theorem outer_end {xs : List ByteArray} {sts : List TS} {k : Nat} (h : Outer xs sts k []) : k = sts.length ∧ Tree xs (stOf xs) sts k k := by
  obtain ⟨n, pos, J1, J2, he, h⟩ := h
  obtain ⟨rfl, rfl⟩ := List.append_eq_nil_iff.1 he.symm
  have h1 : pos ≤ xs.length ∧ Short xs n pos xs.length := h.t1
  have h2 : 0 ≤ pos ∧ Short xs (n + 1) 0 pos := h.t2
  have hs : ∀ s ∈ xs, s.size ≤ n := by
    intro s hs
    obtain ⟨i, hi, rfl⟩ := List.getElem_of_mem hs
    rcases Nat.lt_or_ge i pos with g | g
    · have := h2.2 i hi (Nat.zero_le _) g; omega
    · have := h1.2 i hi g hi; omega
  have e1 : scan xs n pos = stUpto xs n := by
    have := fold_skip (n := n + 1) (stUpto xs n) (a := 0) (b := pos) (xs := xs) (Nat.zero_le _) h2.2
    rw [List.take_zero] at this
    exact this
  have e2 : stUpto xs n = stOf xs := by
    have hl := longest_le_of hs
    obtain ⟨d, rfl⟩ : ∃ d, n = longest xs + d := ⟨n - longest xs, by omega⟩
    exact stUpto_stay d le_longest
  have hT := h.tree
  have hsum := h.sum
  rw [e1, e2] at hT hsum
  exact ⟨by rw [hT.len]; simpa using hsum, hT⟩
end Go.Proofs.Ythgjckibnojnpaa.Pl
namespace Go.Proofs.Ythgjckibnojnpaa.Pl

abbrev GoodT (xs S : List ByteArray) (sts : List TS) : Prop := Tree xs S sts sts.length sts.length
section
variable {xs S : List ByteArray} {sts : List TS}
theorem GoodT.at_ (T : GoodT xs S sts) {s : Nat} (hs : s < sts.length) : ∃ t p, sts[s]? = some t ∧ S[s]? = some p ∧ t.depth = p.size :=
  ⟨_, _, List.getElem?_eq_getElem hs, List.getElem?_eq_getElem (by rw [← T.len]; exact hs), T.depth s _ _ (List.getElem?_eq_getElem hs) (List.getElem?_eq_getElem _)⟩
theorem GoodT.pos (T : GoodT xs S sts) : 0 < sts.length := by
  have := (List.getElem?_eq_some_iff.1 T.root).1
  rw [T.len]; exact this
/-- Below a state: those whose above it is, in order. -/
theorem GoodT.kids (T : GoodT xs S sts) {s : Nat} {t : TS} (ht : sts[s]? = some t) : ∃ f m : Nat, t.first = (f : Int) ∧ t.many = (m : Int) ∧ 0 < f ∧ f + m ≤ sts.length ∧ (∀ (j : Nat) (u : TS), 0 < j → sts[j]? = some u → (u.above = (s : Int) ↔ f ≤ j ∧ j < f + m)) ∧
    ∀ (i j : Nat) (u u' : TS), f ≤ i → i < j → j < f + m → sts[i]? = some u → sts[j]? = some u' → u.by_ < u'.by_ := by
  have hs := (List.getElem?_eq_some_iff.1 ht).1
  obtain ⟨_, f, m, h1, h2, h3, h4, h5⟩ := T.done s t _ hs ht (List.getElem?_eq_getElem (by rw [← T.len]; exact hs))
  refine ⟨f, m, h1, h2, h3, by rw [T.len]; exact h4, h5, fun i j u u' a1 a2 a3 a4 a5 => ?_⟩
  exact T.rise i j u u' (by omega) a2 a4 a5 (by rw [(h5 i u (by omega) a4).2 ⟨a1, by omega⟩, (h5 j u' (by omega) a5).2 ⟨by omega, a3⟩])
/-- A state's bytes behind another's. -/
theorem GoodT.kid (T : GoodT xs S sts) {s j : Nat} {t u : TS} {p q : ByteArray} {f m : Nat} (ht : sts[s]? = some t) (hp : S[s]? = some p) (hu : sts[j]? = some u) (hq : S[j]? = some q) (hk : ∀ (j : Nat) (u : TS), 0 < j → sts[j]? = some u → (u.above = (s : Int) ↔ f ≤ j ∧ j < f + m)) (hf : 0 < f) (c : UInt8) :
    (f ≤ j ∧ j < f + m ∧ u.by_ = (c.toNat : Int)) ↔ tx q = tx p ++ [c] := by
  constructor
  · rintro ⟨h1, h2, h3⟩
    obtain ⟨a, q', b, u1, u2, u3, u4, u5⟩ := T.up j u q (by omega) hu hq
    have e := (hk j u (by omega) hu).2 ⟨h1, h2⟩
    rw [u2] at e
    obtain rfl : a = s := by omega
    rw [hp] at u3
    injection u3 with u3
    subst u3
    rw [u5] at h3
    have : b = c := UInt8.toNat_inj.1 (by omega)
    rw [← this]; exact u4
  · intro h
    have h0 : 0 < j := by
      rcases Nat.eq_zero_or_pos j with rfl | h0
      · rw [T.root] at hq
        injection hq with hq
        have := congrArg List.length h
        rw [← hq] at this
        simp at this
      · exact h0
    obtain ⟨a, q', b, u1, u2, u3, u4, u5⟩ := T.up j u q h0 hu hq
    rw [h] at u4
    obtain ⟨e1, e2⟩ := List.append_inj' u4 rfl
    have e1 := tx_inj e1
    subst e1
    have ea := tree_inj T u3 hp
    subst ea
    injection e2 with e2
    obtain ⟨g1, g2⟩ := (hk j u h0 hu).1 u2
    exact ⟨g1, g2, by rw [u5, e2]⟩
/-- What stands a state by one more byte. -/
theorem GoodT.none_ (T : GoodT xs S sts) {s : Nat} {t : TS} {p : ByteArray} {f m : Nat} (ht : sts[s]? = some t) (hp : S[s]? = some p) (hk : ∀ (j : Nat) (u : TS), 0 < j → sts[j]? = some u → (u.above = (s : Int) ↔ f ≤ j ∧ j < f + m)) (hf : 0 < f) (c : UInt8)
    (h : ∀ (j : Nat) (u : TS), f ≤ j → j < f + m → sts[j]? = some u → u.by_ ≠ (c.toNat : Int)) (q : ByteArray) (hq : tx q = tx p ++ [c]) : q ∉ S := by
  intro hm
  obtain ⟨j, hj, e⟩ := List.getElem_of_mem hm
  have hq' : S[j]? = some q := by rw [List.getElem?_eq_getElem hj, e]
  have hu : sts[j]? = some (sts[j]'(by rw [T.len]; exact hj)) := List.getElem?_eq_getElem _
  obtain ⟨h1, h2, h3⟩ := (T.kid ht hp hu hq' hk hf c).2 hq
  exact h j _ h1 h2 hu h3
/-- A state's beginnings are states. -/
theorem GoodT.beg (T : GoodT xs S sts) : ∀ (d : Nat) (q : ByteArray), q ∈ S → q.size = d → ∀ n, n ≤ d → Pl.beg q n ∈ S := by
  intro d
  induction d with
  | zero =>
    intro q hq hs n hn
    have : Pl.beg q n = q := tx_inj (by rw [tx_beg, List.take_of_length_le (by rw [tx_length]; omega)])
    rw [this]; exact hq
  | succ d ih =>
    intro q hq hs n hn
    rcases Nat.eq_or_lt_of_le hn with rfl | hlt
    · have : Pl.beg q (d + 1) = q := tx_inj (by rw [tx_beg, List.take_of_length_le (by rw [tx_length]; omega)])
      rw [this]; exact hq
    · obtain ⟨j, hj, e⟩ := List.getElem_of_mem hq
      have hq' : S[j]? = some q := by rw [List.getElem?_eq_getElem hj, e]
      have hu : sts[j]? = some (sts[j]'(by rw [T.len]; exact hj)) := List.getElem?_eq_getElem _
      have h0 : 0 < j := by
        rcases Nat.eq_zero_or_pos j with rfl | h0
        · rw [T.root] at hq'
          injection hq' with hq'
          rw [← hq'] at hs
          cases hs
        · exact h0
      obtain ⟨a, q', b, u1, u2, u3, u4, u5⟩ := T.up j _ q h0 hu hq'
      have hl := congrArg List.length u4
      rw [List.length_append, tx_length, tx_length, List.length_singleton] at hl
      have := ih q' (List.mem_of_getElem? u3) (by omega) n (by omega)
      have e2 : Pl.beg q n = Pl.beg q' n := tx_inj (by rw [tx_beg, tx_beg, u4, List.take_append_of_le_length (by rw [tx_length]; omega)])
      rw [e2]; exact this
end
end Go.Proofs.Ythgjckibnojnpaa.Pl
