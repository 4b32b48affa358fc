/- Keys that are two bytes. -/
import Derived.Test.YthgjckibnojnpaaProg
import Derived.Test.YthgjckibnojnpaaMap
import Derived.KernelRfl
import Derived.WalkKit
set_option linter.unusedVariables false
set_option linter.unusedSimpArgs false
namespace Go.Proofs.Ythgjckibnojnpaa
open Go.RowKit Go.Proofs.YthgjckibnojnpaaW.PrintWords
def enc2 (p : Int × Int) : Value := .agg #[.int .u8 p.1, .int .u8 p.2]
theorem key2_check (e : Bool) (x : Int × Int) (w : World) : (Instr.checkKey e 10000 104 (enc2 x)).run Try.prog w = .ok () w := by kernel_rfl
theorem key2_sz (w : World) : (sizeOf 5).run Try.prog w = .ok 1 w := by kernel_rfl
theorem key2_part (x : Int × Int) (w : World) : (part 5 #[.int .u8 x.1, .int .u8 x.2] 0).run Try.prog w = .ok (.int .u8 x.1) w ∧ (part 5 #[.int .u8 x.1, .int .u8 x.2] 1).run Try.prog w = .ok (.int .u8 x.2) w := ⟨by kernel_rfl, by kernel_rfl⟩
theorem key2_eq (x y : Int × Int) (w : World) : (Op.equal 104 (enc2 x) (enc2 y)).run Try.prog w = .ok (x.1 == y.1 && x.2 == y.2) w := by
  unfold Op.equal
  have h1 : ∀ (a b : Int) (d : Nat) (w : World), (Op.equalIn (d + 1) 5 (.int .u8 a) (.int .u8 b)).run Try.prog w = .ok (a == b) w := by
    intro a b d w
    simp [Op.equalIn, run_underlying Try.underlying5]
  have h2 : ∀ (a b : Int) (w : World), (Op.equalIn 9999 5 (.int .u8 a) (.int .u8 b)).run Try.prog w = .ok (a == b) w := fun a b w => h1 a b 9998 w
  unfold Op.maxDepth
  unfold Op.equalIn
  have hr : List.range' 0 2 = [0, 1] := by decide
  have p1 := fun (x : Int × Int) (w : World) => (key2_part x w).1
  have p2 := fun (x : Int × Int) (w : World) => (key2_part x w).2
  simp [run_underlying Try.underlying104, enc2, Result.andThen, key2_sz, hr]
  cases h3 : x.1 == y.1 <;> cases h4 : x.2 == y.2 <;> simp [List.forIn_cons, Result.andThen, p1, p2, h2, h3, h4]

theorem key2_ok : KeyOk Try.prog 104 enc2 where
  check := key2_check
  find x l ks w hk := by
    rw [run_findKey_eq w (by kernel_rfl)]
    have hn : ∀ (l : List MapEntry) (ks : List (Int × Int)) (i : Nat), l.map (·.key) = ks.map enc2 → (Instr.findAsking 104 (enc2 x) l i).run Try.prog w = .ok (firstAt x l ks i) w := by
      intro l
      induction l with
      | nil => intro ks i hk; cases ks <;> simp_all [Instr.findAsking, firstAt]
      | cons e l ih =>
        intro ks i hk
        cases ks with
        | nil => simp at hk
        | cons k ks =>
          simp only [List.map_cons, List.cons.injEq] at hk
          have he := key2_eq x k w
          rw [← hk.1] at he
          unfold Instr.findAsking
          simp only [Sem.run_bind, he, Result.andThen]
          by_cases hx : k = x
          · subst hx
            simp [firstAt]
          · have hb : (x.1 == k.1 && x.2 == k.2) = false := by
              rw [Bool.and_eq_false_iff]
              by_cases h1 : x.1 = k.1
              · right
                rw [beq_eq_false_iff_ne]
                exact fun h2 => hx (Prod.ext h1.symm h2.symm)
              · left; rw [beq_eq_false_iff_ne]; exact h1
            simp only [hb, firstAt, hx, if_false]
            exact ih ks (i + 1) hk.2
    exact hn l ks 0 hk
  same x := by simp [Instr.sameBits, enc2]
end Go.Proofs.Ythgjckibnojnpaa
