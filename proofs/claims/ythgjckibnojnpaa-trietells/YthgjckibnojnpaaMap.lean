/- Maps that the call itself makes, with whole numbers for values: a list of pairs says all of them; for whatever keys the model finds by what they are. -/
import Derived.Test.YthgjckibnojnpaaMem
import Derived.Maps.Own
import Derived.WideKeyRuns
import Derived.ChangeMaps5
set_option linter.unusedVariables false
set_option linter.unusedSimpArgs false
set_option linter.unusedSectionVars false
namespace Go.Proofs.Ythgjckibnojnpaa
open Go.RowKit Go.Proofs.YthgjckibnojnpaaW.PrintWords Go.ChangeMaps
open Go.MapKept (bytes_beq)

section
variable {κ : Type} [DecidableEq κ]
def getM (x : κ) : List (κ × Int) → Option Int
  | [] => none
  | p :: m => if p.1 = x then some p.2 else getM x m
def putM (x : κ) (v : Int) : List (κ × Int) → List (κ × Int)
  | [] => [(x, v)]
  | p :: m => if p.1 = x then (x, v) :: m else p :: putM x v m
theorem getM_putM (x y : κ) (v : Int) (m : List (κ × Int)) : getM y (putM x v m) = if y = x then some v else getM y m := by
  induction m with
  | nil => by_cases h : x = y <;> simp [putM, getM, h, eq_comm]
  | cons p m ih =>
    unfold putM
    by_cases h : p.1 = x
    · rw [if_pos h]
      by_cases hy : y = x
      · subst hy; simp [getM]
      · have h1 : ¬ x = y := fun e => hy e.symm
        have h2 : ¬ p.1 = y := fun e => hy (by rw [← e, h])
        simp [getM, h1, h2, hy]
    · rw [if_neg h]
      by_cases hp : p.1 = y
      · have : ¬ y = x := fun e => h (by rw [hp, e])
        simp [getM, hp, this]
      · simp only [getM, hp, if_false]
        exact ih
theorem putM_length_le (x : κ) (v : Int) (m : List (κ × Int)) : (putM x v m).length ≤ m.length + 1 := by
  induction m with
  | nil => simp [putM]
  | cons p m ih => unfold putM; split <;> simp; omega
theorem putM_keys (x : κ) (v : Int) (m : List (κ × Int)) : (putM x v m).map (·.1) = if (getM x m).isSome then m.map (·.1) else m.map (·.1) ++ [x] := by
  induction m with
  | nil => simp [putM, getM]
  | cons p m ih =>
    unfold putM getM
    by_cases h : p.1 = x
    · simp [h]
    · simp only [h, if_false, List.map_cons, ih]
      split <;> simp
theorem getM_isSome (x : κ) (m : List (κ × Int)) : (getM x m).isSome = true ↔ x ∈ m.map (·.1) := by
  induction m with
  | nil => simp [getM]
  | cons p m ih =>
    unfold getM
    by_cases h : p.1 = x
    · simp [h]
    · simp only [h, if_false, List.map_cons, List.mem_cons, ih]
      constructor
      · exact fun h' => .inr h'
      · rintro (e | h')
        · exact absurd e.symm h
        · exact h'

def firstAt (x : κ) : List MapEntry → List κ → Nat → Option (Nat × Value)
  | e :: l, k :: ks, i => if k = x then some (i, e.val) else firstAt x l ks (i + 1)
  | _, _, _ => none

structure KeyOk (P : Program) (kt : TypeId) (enc : κ → Value) : Prop where
  check : ∀ (e : Bool) (x : κ) (w : World), (Instr.checkKey e 10000 kt (enc x)).run P w = .ok () w
  find : ∀ (x : κ) (l : List MapEntry) (ks : List κ) (w : World), l.map (·.key) = ks.map enc → (Instr.findKey kt (enc x) l).run P w = .ok (firstAt x l ks 0) w
  same : ∀ x : κ, Instr.sameBits 10000 (enc x) (enc x) = true

/-- Block b is a map that says m. -/
def MapAt (enc : κ → Value) (w : World) (b : Nat) (m : List (κ × Int)) : Prop :=
  ∃ es clock, w.heap[b]? = some (.map es clock) ∧ es.toList.map (fun e => (e.key, e.val)) = m.map (fun p => (enc p.1, Value.int .i64 p.2))
theorem MapAt.lt {enc : κ → Value} {w : World} {b : Nat} {m : List (κ × Int)} (h : MapAt enc w b m) : b < w.heap.size := by
  obtain ⟨es, clock, hb, _⟩ := h
  exact (Array.getElem?_eq_some_iff.1 hb).1
theorem MapAt.made (enc : κ → Value) (w : World) : MapAt enc (w.alloc (.map #[] 0)) w.heap.size [] := ⟨#[], 0, (MapKept.heap_alloc w _).1, rfl⟩
theorem MapAt.same {enc : κ → Value} {w w1 : World} {b : Nat} {m : List (κ × Int)} (h : MapAt enc w b m) (hh : w1.heap[b]? = w.heap[b]?) : MapAt enc w1 b m := by
  obtain ⟨es, clock, hb, he⟩ := h
  exact ⟨es, clock, hh.trans hb, he⟩
theorem MapAt.below {enc : κ → Value} {w w1 : World} {b : Nat} {m : List (κ × Int)} (h : MapAt enc w b m) (hb : Below w.heap.size w w1) : MapAt enc w1 b m := h.same (hb.block b h.lt)

theorem first_get {enc : κ → Value} {es : List MapEntry} {m : List (κ × Int)} (h : es.map (fun e => (e.key, e.val)) = m.map (fun p => (enc p.1, Value.int .i64 p.2))) (x : κ) :
    ∀ i, (firstAt x es (m.map (·.1)) i).map (·.2) = (getM x m).map (Value.int .i64) := by
  induction m generalizing es with
  | nil => intro i; cases es <;> simp_all [firstAt, getM]
  | cons p m ih =>
    intro i
    cases es with
    | nil => simp at h
    | cons e es =>
      simp only [List.map_cons, List.cons.injEq, Prod.mk.injEq] at h
      by_cases hp : p.1 = x
      · simp [firstAt, getM, hp, h.1.2]
      · simp only [List.map_cons, firstAt, getM, hp, if_false]
        exact ih h.2 (i + 1)
theorem keys_of {enc : κ → Value} {es : List MapEntry} {m : List (κ × Int)} (h : es.map (fun e => (e.key, e.val)) = m.map (fun p => (enc p.1, Value.int .i64 p.2))) : es.map (·.key) = (m.map (·.1)).map enc := by
  have h2 := congrArg (List.map Prod.fst) h
  simpa [Function.comp_def] using h2

theorem run_lookup {P : Program} {mt kt et : TypeId} {enc : κ → Value} (K : KeyOk P kt enc) (ht : P.underlying mt = some (.map kt et)) (hz : ∀ w, (zeroValue et).run P w = .ok (.int .i64 0) w)
    {w : World} {b : Nat} {m : List (κ × Int)} (h : MapAt enc w b m) (x : κ) :
    (Instr.lookup mt (.map (some b)) (enc x) false).run P w = .ok (.int .i64 ((getM x m).getD 0)) w ∧
    (Instr.lookup mt (.map (some b)) (enc x) true).run P w = .ok (.tuple #[.int .i64 ((getM x m).getD 0), .bool (getM x m).isSome]) w := by
  obtain ⟨es, clock, hb, he⟩ := h
  have hgo : (getObj b).run P w = .ok (.map es clock) w := MapKept.run_getObj_map hb
  have hso : ∀ o, (setObj b o).run P w = .ok () { w with heap := w.heap.setIfInBounds b o } := fun o => MapKept.run_setObj_map o hb
  have hf := K.find x es.toList (m.map (·.1)) w (keys_of he)
  have hg := first_get he x 0
  cases hv : firstAt x es.toList (m.map (·.1)) 0 with
  | none =>
    rw [hv] at hf hg
    have hn : getM x m = none := by simpa using hg.symm
    constructor <;> simp [Instr.lookup, run_underlying ht, hgo, K.check, hf, hz, hn, Result.andThen]
  | some p =>
    rw [hv] at hf hg
    obtain ⟨i, v⟩ := p
    cases hn : getM x m with
    | none => rw [hn] at hg; simp at hg
    | some y =>
      rw [hn] at hg
      simp at hg
      subst hg
      constructor <;> simp [Instr.lookup, run_underlying ht, hgo, K.check, hf, Result.andThen]

theorem first_put {enc : κ → Value} {m : List (κ × Int)} (x : κ) (v : Int) (i0 : Nat) : ∀ {es : List MapEntry} (h : es.map (fun e => (e.key, e.val)) = m.map (fun p => (enc p.1, Value.int .i64 p.2))),
    (firstAt x es (m.map (·.1)) i0 = none ∧ putM x v m = m ++ [(x, v)]) ∨
    ∃ j u, firstAt x es (m.map (·.1)) i0 = some (i0 + j, u) ∧ (∃ e, es[j]? = some e ∧ e.key = enc x) ∧ (es.modify j fun e => { e with key := enc x, val := .int .i64 v }).map (fun e => (e.key, e.val)) = (putM x v m).map (fun p => (enc p.1, Value.int .i64 p.2)) := by
  induction m generalizing i0 with
  | nil => intro es h; cases es <;> simp_all [firstAt, putM]
  | cons p m ih =>
    intro es h
    cases es with
    | nil => simp at h
    | cons e es =>
      simp only [List.map_cons, List.cons.injEq, Prod.mk.injEq] at h
      by_cases hp : p.1 = x
      · refine .inr ⟨0, e.val, by simp [firstAt, hp], ⟨e, rfl, by rw [h.1.1, hp]⟩, ?_⟩
        simp [putM, hp, h.2]
      · rcases ih (i0 + 1) h.2 with ⟨h1, h2⟩ | ⟨j, u, h1, ⟨e', h3, h4⟩, h5⟩
        · exact .inl ⟨by simp [firstAt, hp, h1], by simp [putM, hp, h2]⟩
        · refine .inr ⟨j + 1, u, ?_, ⟨e', by simpa using h3, h4⟩, ?_⟩
          · simp only [List.map_cons, firstAt, hp, if_false, h1]
            congr 2; omega
          · simp [putM, hp, h5, h.1.1, h.1.2]

/-- A store: what the block holds behind it hangs on what it held alone. -/
theorem run_updateW {P : Program} {mt kt et : TypeId} {enc : κ → Value} (K : KeyOk P kt enc) (ht : P.underlying mt = some (.map kt et))
    {w : World} {b : Nat} {m : List (κ × Int)} (h : MapAt enc w b m) (x : κ) (v : Int) :
    ∃ o : Obj, ∀ W : World, W.heap[b]? = w.heap[b]? → (Instr.mapUpdate mt (.map (some b)) (enc x) (.int .i64 v)).run P W = .ok () (setBlock W b o) ∧ MapAt enc (setBlock W b o) b (putM x v m) ∧ W.grownBy (setBlock W b o) (some b) := by
  obtain ⟨es, clock, hb0, he⟩ := h
  rcases first_put x v 0 he with ⟨h1, h2⟩ | ⟨j, u, h1, ⟨e, h3, h4⟩, h5⟩
  · refine ⟨.map (es.push { key := enc x, val := .int .i64 v, born := clock }) (clock + 1), fun W hW => ?_⟩
    have hb := hW.trans hb0
    have hgo : (getObj b).run P W = .ok (.map es clock) W := MapKept.run_getObj_map hb
    have hso : ∀ o, (setObj b o).run P W = .ok () { W with heap := W.heap.setIfInBounds b o } := fun o => MapKept.run_setObj_map o hb
    have hf := K.find x es.toList (m.map (·.1)) W (keys_of he)
    rw [h1] at hf
    refine ⟨?_, ⟨_, _, heap_setBlock_same hb _, ?_⟩, ⟨rfl, rfl, rfl, by simp [setBlock], fun i _ hi => heap_setBlock_other hb _ (fun e => hi (by rw [e]))⟩⟩
    · simp [Instr.mapUpdate, run_underlying ht, hgo, K.check, hf, hso, Result.andThen, setBlock]
    · rw [h2]
      simp [he]
  · have hj : es[j]? = some e := by simpa using h3
    refine ⟨.map (es.modify j fun e => { e with key := enc x, val := .int .i64 v }) clock, fun W hW => ?_⟩
    have hb := hW.trans hb0
    have hgo : (getObj b).run P W = .ok (.map es clock) W := MapKept.run_getObj_map hb
    have hso : ∀ o, (setObj b o).run P W = .ok () { W with heap := W.heap.setIfInBounds b o } := fun o => MapKept.run_setObj_map o hb
    have hst : (Instr.keyThatStays (enc x) (enc x)).run P W = .ok (enc x) W := by simp [Instr.keyThatStays, K.same]
    have hf := K.find x es.toList (m.map (·.1)) W (keys_of he)
    rw [h1] at hf
    simp only [Nat.zero_add] at hf
    refine ⟨?_, ⟨_, _, heap_setBlock_same hb _, ?_⟩, ⟨rfl, rfl, rfl, by simp [setBlock], fun i _ hi => heap_setBlock_other hb _ (fun e => hi (by rw [e]))⟩⟩
    · simp [Instr.mapUpdate, run_underlying ht, hgo, K.check, hf, hj, h4, hst, hso, Result.andThen, setBlock]
    · rw [Array.toList_modify]
      exact h5
theorem run_update {P : Program} {mt kt et : TypeId} {enc : κ → Value} (K : KeyOk P kt enc) (ht : P.underlying mt = some (.map kt et))
    {w : World} {b : Nat} {m : List (κ × Int)} (h : MapAt enc w b m) (x : κ) (v : Int) :
    ∃ w', (Instr.mapUpdate mt (.map (some b)) (enc x) (.int .i64 v)).run P w = .ok () w' ∧ MapAt enc w' b (putM x v m) ∧ w.grownBy w' (some b) := by
  obtain ⟨o, ho⟩ := run_updateW K ht h x v
  exact ⟨_, ho w rfl⟩
end

/-! Keys that are texts. -/
theorem keyOk_string {P : Program} {kt : TypeId} (h : P.underlying kt = some .string) : KeyOk P kt Value.string where
  check e x w := by
    unfold Instr.checkKey
    simp [run_underlying h, Result.andThen]
  find x l ks w hk := by
    have hn : ∀ (l : List MapEntry) (ks : List ByteArray) (i : Nat), l.map (·.key) = ks.map Value.string → Instr.findNow .string (.string x) l i = some (firstAt x l ks i) := by
      intro l
      induction l with
      | nil => intro ks i hk; cases ks <;> simp_all [Instr.findNow, firstAt]
      | cons e l ih =>
        intro ks i hk
        cases ks with
        | nil => simp at hk
        | cons k ks =>
          simp only [List.map_cons, List.cons.injEq] at hk
          by_cases hx : k = x
          · subst hx
            simp [Instr.findNow, hk.1, Instr.sameNow, firstAt, (bytes_beq k k).2 rfl]
          · have hx' : ¬ x = k := fun e => hx e.symm
            have hs : Instr.sameNow .string (.string x) (.string k) = some false := by
              have hb : (x == k) = false := by
                cases hb : (x == k) with
                | false => rfl
                | true => exact absurd ((bytes_beq _ _).1 hb) hx'
              simp [Instr.sameNow, hb]
            simp only [Instr.findNow, hk.1, hs, firstAt, hx, if_false]
            exact ih ks (i + 1) hk.2
    exact MapKept.run_findKey h (hn l ks 0 hk)
  same x := by simp [Instr.sameBits, (bytes_beq x x).2 rfl]
end Go.Proofs.Ythgjckibnojnpaa
