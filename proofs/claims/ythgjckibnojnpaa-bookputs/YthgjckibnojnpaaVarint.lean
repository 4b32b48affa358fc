/- The bytes of numbers. -/
import Derived.Test.YthgjckibnojnpaaPAx0
import Derived.Test.YthgjckibnojnpaaMem
import Derived.Test.YthgjckibnojnpaaEv
import Derived.Handy
set_option linter.unusedVariables false
set_option linter.unusedSimpArgs false
namespace Go.Proofs.Ythgjckibnojnpaa
open Go.RowKit Go.Proofs.YthgjckibnojnpaaW.PrintWords Go.Proofs.YthgjckibnojnpaaW.PrintLast

namespace Pl
/-- A number's bytes. -/
def putL (n : Nat) : List Int := if n < 128 then [(n : Int)] else ((n % 128 + 128 : Nat) : Int) :: putL (n / 128)
termination_by n
decreasing_by omega
theorem putL_lt {n : Nat} (h : n < 128) : putL n = [(n : Int)] := by rw [putL, if_pos h]
theorem putL_ge {n : Nat} (h : 128 ≤ n) : putL n = ((n % 128 + 128 : Nat) : Int) :: putL (n / 128) := by rw [putL, if_neg (by omega)]
def putV (n : Nat) : ByteArray := strOfNums (putL n)
end Pl
open Pl
theorem and127 (m : Nat) (h : m ≤ 9223372036854775807) : bits .and .i64 (m : Int) 127 = ((m % 128 : Nat) : Int) := by
  have := bits_mask .i64 63 (by decide) (fun n h0 h1 => by rw [IntKind.wrap_i64]; omega) 7 (by decide) (m : Int) (by omega) (by omega)
  rw [show (127 : Int) = 2 ^ 7 - 1 from rfl, this]
  omega
theorem or128 (m : Nat) (h : m < 128) : bits .or .i64 (m : Int) 128 = ((m + 128 : Nat) : Int) := by
  have := (bits_nat .i64 63 (by decide) (fun n h0 h1 => by rw [IntKind.wrap_i64]; omega) m 128 (by omega) (by decide)).2
  rw [show (128 : Int) = ((128 : Nat) : Int) from rfl, this, Nat.or_comm, show (128 : Nat) = 2 ^ 7 * 1 from rfl, ← Nat.two_pow_add_eq_or_of_lt (by omega) 1, Nat.add_comm]

set_option maxHeartbeats 1000000 in
set_option maxRecDepth 20000 in
theorem putAny (n0 : Nat) (hn : n0 ≤ 140737488355326) (w : World) :
    Calls Try.prog 86 #[.int .i64 n0] w fun e w' => e = .returned (.string (putV n0)) ∧ Below w.heap.size w w' := by
  have d0 : decide ((n0 : Int) < 0) = false := by simp
  obtain ⟨i0, hi, hz0, hz1, hz2⟩ := info_parts PA.info5
  obtain ⟨w1, hmk, hown, hg⟩ := run_make_own (P := Try.prog) w w.heap.size 66 5 i0 (.int .u8 0) 1 Try.underlying66 hi hz0 hz1 .i64 .i64 9 (by rw [hz2]; decide) (by decide) (Nat.le_refl _)
  have hmk9 : (Instr.makeSlice 66 (.int .i64 0) (.int .i64 9)).run Try.prog w = .ok (.slice (some ⟨w.heap.size, 0, none⟩) 0 9) w1 := hmk
  have hR0 : Kd.R (Kd.int .u8) 5 w1 w.heap.size (fun _ => True) (.slice (some ⟨w.heap.size, 0, none⟩) 0 9) [] := Kd.R_of_own hown (fun _ _ => trivial)
  have hB0 : Below w.heap.size w w1 := (Below.refl _ w).grown hg (Nat.le_refl _) (fun k hk => by cases hk)
  replace hR0 := Aside0.mk hR0
  replace hB0 := Aside0.mk hB0
  clear hmk hown hg hi hz0 hz1 hz2
  go_enter Try.func86, Try.ntmps86
  go_wp2
  clear hmk9
  go_loopw [0, 3] (fun n b wr => ∃ (m : Nat) (out : List Int), n = .int .i64 m ∧ out.length + m ≤ n0 ∧ out ++ putL m = putL n0 ∧ Aside0 (Kd.R (Kd.int .u8) 5 wr w.heap.size (fun _ => True) b out) ∧ Aside0 (Below w.heap.size w wr)) (fun n _ _ => (intOf n).toNat)
  case atStart =>
    exact ⟨n0, [], rfl, by simp, rfl, hR0, hB0⟩
  case round =>
    obtain ⟨m, out, rfl, hm, hp, hR, hB⟩ := hrel
    by_cases hlt : 127 < m
    · have d1 : decide (127 < (m : Int)) = true := by simp; omega
      have e1 := and127 m (by omega)
      have e2 := or128 (m % 128) (by omega)
      have e3 : ((m % 128 + 128 : Nat) : Int) % 256 = ((m % 128 + 128 : Nat) : Int) := by omega
      generalize hq : m % 128 + 128 = q at e2 e3
      generalize hr : m % 128 = r at e1 e2
      go_wp2_with ((with_reducible refine gate_builtin (b := .append) (xs := #[.tmp 11, .tmp 16]) rfl ?_); (try (refine gate_guard (by rfl) ?_; dsimp only)); at_builtin; refine Kd.R_append (Kd.int .u8) (w0 := w) w.heap.size rfl (.tmp 11) (.tmp 16) 66 5 (.int .u8 0) 1 rfl Try.underlying66 PA.info5 rfl (by decide) (by omega) u3 out (q : Int) [.int .u8 q] (fun _ => True) (fun _ => False) rfl rfl ?aP (fun _ hk => hk.elim) ?aF ?aO ?aB ?aS ?aL ?_; (case aP => exact rfl); (case aF => exact (fun _ _ => trivial)); (case aO => exact hR.out); (case aB => exact hB.out); (case aS => exact hB.out.size); (case aL => omega); intro v1 w1 ho hb hg hat; replace ho := Aside0.mk ho; replace hb := Aside0.mk hb; clear hg hat hB hR)
      refine ⟨⟨m / 128, out ++ [(q : Int)], by simp, by (rw [List.length_append, List.length_singleton]; omega), ?_, ho, hb⟩, by simp [intOf]; omega⟩
      rw [List.append_assoc, ← hp, putL_ge (n := m) (by omega), ← hq]
      rfl
    · have d1 : decide (127 < (m : Int)) = false := by simp; omega
      have e3 : (m : Int) % 256 = m := by omega
      rw [putL_lt (by omega)] at hp
      replace hp := Lib.hid hp
      go_wp2_with ((with_reducible refine gate_builtin (b := .append) (xs := #[.tmp 18, .tmp 21]) rfl ?_); (try (refine gate_guard (by rfl) ?_; dsimp only)); at_builtin; refine Kd.R_append (Kd.int .u8) (w0 := w) w.heap.size rfl (.tmp 18) (.tmp 21) 66 5 (.int .u8 0) 1 rfl Try.underlying66 PA.info5 rfl (by decide) (by omega) u3 out (m : Int) [.int .u8 m] (fun _ => True) (fun _ => False) rfl rfl ?aP (fun _ hk => hk.elim) ?aF ?aO ?aB ?aS ?aL ?_; (case aP => exact rfl); (case aF => exact (fun _ _ => trivial)); (case aO => exact hR.out); (case aB => exact hB.out); (case aS => exact hB.out.size); (case aL => omega); intro v1 w1 ho hb hg hat; rw [hp.out] at ho; have hcv := own_string (P := Try.prog) Try.underlying66 Try.underlying5 Try.underlying9 (Kd.own_of_R ho); replace ho := Aside0.mk ho; replace hb := Aside0.mk hb; clear hg hat hB hR)
      go_ret
      exact ⟨rfl, hb.out⟩
end Go.Proofs.Ythgjckibnojnpaa
