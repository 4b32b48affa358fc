/- What a table of pairs tells. -/
import Derived.Test.YthgjckibnojnpaaPair
set_option linter.unusedVariables false
set_option linter.unusedSimpArgs false
namespace Go.Proofs.Ythgjckibnojnpaa
open Go.RowKit Go.Proofs.YthgjckibnojnpaaW.PrintWords Pl

def nearV (xs : List ByteArray) (m : List ((Int × Int) × Int)) (p : Int × Int) : Int := (getM p m).getD (far xs)

theorem pairNear (g : Nat) (xs : List ByteArray) (m : List ((Int × Int) × Int)) (a b : Int) (w : World) (h : TabAt w g xs m) :
    Calls Try.prog 21 #[.pointer (some ⟨g, 0, none⟩), .int .u8 a, .int .u8 b] w fun e w' => e = .returned (.int .i64 (nearV xs m (a, b))) ∧ w = w' := by
  obtain ⟨q, hb, hm⟩ := h.b
  have c0 := hb.cell 0
  have c1 := hb.cell 1
  simp only [List.getElem?_toArray, List.getElem?_cons_zero, List.getElem?_cons_succ] at c0 c1
  have hlk := (run_lookup key2_ok Try.underlying101 zero_int hm (a, b)).2
  simp only [enc2] at hlk
  clear h hb hm
  cases hg : getM (a, b) m with
  | none =>
    rw [hg] at hlk
    simp only [Option.getD_none, Option.isSome_none] at hlk
    have H : nearV xs m (a, b) = far xs := by unfold nearV; rw [hg]; rfl
    replace H := Lib.hid H
    clear hg
    go_enter Try.func21, Try.ntmps21
    go_wp2
    go_ret
    exact ⟨ret_int H.out.symm, rfl⟩
  | some v =>
    rw [hg] at hlk
    simp only [Option.getD_some, Option.isSome_some] at hlk
    have H : nearV xs m (a, b) = v := by unfold nearV; rw [hg]; rfl
    replace H := Lib.hid H
    clear hg
    go_enter Try.func21, Try.ntmps21
    go_wp2
    go_ret
    exact ⟨ret_int H.out.symm, rfl⟩
theorem pairNearNil (a b : Int) (w : World) : Calls Try.prog 21 #[.pointer none, .int .u8 a, .int .u8 b] w fun e w' => e = .returned (.int .i64 0) ∧ w = w' := by
  go_enter Try.func21, Try.ntmps21
  go_wp2
  go_ret
  exact ⟨rfl, rfl⟩
theorem pairFar (g : Nat) (xs : List ByteArray) (m : List ((Int × Int) × Int)) (w : World) (h : TabAt w g xs m) :
    Calls Try.prog 22 #[.pointer (some ⟨g, 0, none⟩)] w fun e w' => e = .returned (.int .i64 (far xs)) ∧ w = w' := by
  obtain ⟨q, hb, hm⟩ := h.b
  have c1 := hb.cell 1
  simp only [List.getElem?_toArray, List.getElem?_cons_zero, List.getElem?_cons_succ] at c1
  clear h hb hm
  go_enter Try.func22, Try.ntmps22
  go_wp2
  go_ret
  exact ⟨rfl, rfl⟩
theorem pairFarNil (w : World) : Calls Try.prog 22 #[.pointer none] w fun e w' => e = .returned (.int .i64 0) ∧ w = w' := by
  go_enter Try.func22, Try.ntmps22
  go_wp2
  go_ret
  exact ⟨rfl, rfl⟩
theorem run_len_mapAt {P : Program} {κ : Type} [DecidableEq κ] {enc : κ → Value} {mt kt et ty : TypeId} (ht : P.underlying mt = some (.map kt et)) {w : World} {b : Nat} {m : List (κ × Int)} (h : MapAt enc w b m) :
    (Builtin.len_ #[mt] ty #[.map (some b)]).run P w = .ok (.int .i64 m.length) w := by
  obtain ⟨es, clock, hb, he⟩ := h
  have hl : es.size = m.length := by have := congrArg List.length he; simpa using this
  have hgo : (getObj b).run P w = .ok (.map es clock) w := MapKept.run_getObj_map hb
  simp [Builtin.len_, run_underlying ht, hgo, hl, Result.andThen]
  rfl
theorem pairLen (g : Nat) (xs : List ByteArray) (m : List ((Int × Int) × Int)) (w : World) (h : TabAt w g xs m) :
    Calls Try.prog 24 #[.pointer (some ⟨g, 0, none⟩)] w fun e w' => e = .returned (.int .i64 m.length) ∧ w = w' := by
  obtain ⟨q, hb, hm⟩ := h.b
  have c0 := hb.cell 0
  simp only [List.getElem?_toArray, List.getElem?_cons_zero, List.getElem?_cons_succ] at c0
  have hl := fun ty => run_len_mapAt (ty := ty) Try.underlying101 hm
  clear h hb hm
  go_enter Try.func24, Try.ntmps24
  go_wp2
  go_ret
  exact ⟨rfl, rfl⟩
theorem pairLenNil (w : World) : Calls Try.prog 24 #[.pointer none] w fun e w' => e = .returned (.int .i64 0) ∧ w = w' := by
  go_enter Try.func24, Try.ntmps24
  go_wp2
  go_ret
  exact ⟨rfl, rfl⟩
theorem pairClearNil (s : ByteArray) (e : Int) (w : World) : Calls Try.prog 26 #[.pointer none, .string s, .int .i64 e] w fun r w' => r = .returned (.int .i64 0) ∧ w = w' := by
  go_enter Try.func26, Try.ntmps26
  go_wp2
  go_ret
  exact ⟨rfl, rfl⟩
/-- What two bytes ahead of an end clear. -/
def clearV (xs : List ByteArray) (m : List ((Int × Int) × Int)) (s : ByteArray) (e : Int) : Int :=
  if 2 ≤ e ∧ e ≤ s.size then nearV xs m (bt s (e - 2), bt s (e - 1)) else 0
theorem pairClear (g : Nat) (xs : List ByteArray) (m : List ((Int × Int) × Int)) (s : ByteArray) (e : Int) (w : World) (h : TabAt w g xs m) (hs : s.size ≤ 140737488351232) :
    Calls Try.prog 26 #[.pointer (some ⟨g, 0, none⟩), .string s, .int .i64 e] w fun r w' => r = .returned (.int .i64 (clearV xs m s e)) ∧ ∃ n, w' = w.drewN n := by
  by_cases h1 : 2 ≤ e
  · by_cases h2 : e ≤ s.size
    · have H : clearV xs m s e = nearV xs m (bt s (e - 2), bt s (e - 1)) := by unfold clearV; rw [if_pos ⟨h1, h2⟩]
      obtain ⟨i1, hi1, hi1l⟩ : ∃ i1 : Nat, e - 2 = (i1 : Int) ∧ i1 < s.size := ⟨(e - 2).toNat, by omega, by omega⟩
      obtain ⟨i2, hi2, hi2l⟩ : ∃ i2 : Nat, e - 1 = (i2 : Int) ∧ i2 < s.size := ⟨(e - 1).toNat, by omega, by omega⟩
      have e1 : IntKind.i64.wrap (e - 2) = e - 2 := by rw [IntKind.wrap_i64]; omega
      have e2 : IntKind.i64.wrap (e - 1) = e - 1 := by rw [IntKind.wrap_i64]; omega
      have hn := fun n => pairNear g xs m (bt s (e - 2)) (bt s (e - 1)) (w.drewN n) ⟨h.b, h.near⟩
      rw [hi1, hi2, ← bt_at s i1 (by simpa using hi1l), ← bt_at s i2 (by simpa using hi2l)] at H
      rw [hi1, hi2, ← bt_at s i1 (by simpa using hi1l), ← bt_at s i2 (by simpa using hi2l)] at hn
      simp only [Int.toNat_natCast] at H hn
      rw [hi1] at e1
      rw [hi2] at e2
      generalize hp1 : ((s[i1]'hi1l).toNat : Int) = p1 at H hn
      generalize hp2 : ((s[i2]'hi2l).toNat : Int) = p2 at H hn
      have d1 : decide (e < 2) = false := by simp; omega
      have d2 : decide ((s.size : Int) < e) = false := by simp; omega
      rw [← H] at hn
      clear h H
      go_enter Try.func26, Try.ntmps26
      go_wp2
      go_quiet ((go_at_call 21; refine Calls.quiet_of_same ((hn _).mono fun _ _ hh => ⟨hh.1, hh.2.symm⟩)))
      go_wp2
      go_ret
      exact ⟨rfl, _, rfl⟩
    · have H : clearV xs m s e = 0 := by unfold clearV; rw [if_neg (fun h => h2 h.2)]
      replace H := Lib.hid H
      have d1 : decide (e < 2) = false := by simp; omega
      have d2 : decide ((s.size : Int) < e) = true := by simp; omega
      clear h
      go_enter Try.func26, Try.ntmps26
      go_wp2
      go_ret
      exact ⟨ret_int H.out.symm, 0, rfl⟩
  · have H : clearV xs m s e = 0 := by unfold clearV; rw [if_neg (fun h => h1 h.1)]
    replace H := Lib.hid H
    have d1 : decide (e < 2) = true := by simp; omega
    clear h
    go_enter Try.func26, Try.ntmps26
    go_wp2
    go_ret
    exact ⟨ret_int H.out.symm, 0, rfl⟩
end Go.Proofs.Ythgjckibnojnpaa
