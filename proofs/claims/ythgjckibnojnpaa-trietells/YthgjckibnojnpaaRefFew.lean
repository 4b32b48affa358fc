/- The reference's Few, plainly. -/
import Derived.Test.YthgjckibnojnpaaEv
import Derived.Test.YthgjckibnojnpaaPAJuratref09Few
set_option linter.unusedVariables false
set_option linter.unusedSimpArgs false
namespace Go.Proofs.Ythgjckibnojnpaa
open Go.RowKit Go.Proofs.YthgjckibnojnpaaW.PrintWords PA
def few (xs : List ByteArray) (a b : Int) : Bool := decide ((xs.length : Int) ≤ a) && xs.all (fun s => decide ((s.size : Int) ≤ b))
theorem few_l0 (xs : List ByteArray) (b : Int) (hl : xs.length ≤ 9223372036854775806) (d : Nat) : ∀ k : Nat, k + d = xs.length → Ev (fun n => juratref09_Few.l0 n xs b k) ((xs.drop k).all fun s => decide ((s.size : Int) ≤ b)) := by
  induction d with
  | zero =>
    intro k hk
    refine Ev.step (fun n => by rw [juratref09_Few.l0]) ?_
    refine ev_neg (by omega) (ev_eq ev_now ?_)
    rw [List.drop_of_length_le (by omega)]; rfl
  | succ d ih =>
    intro k hk
    have hlt : k < xs.length := by omega
    refine Ev.step (fun n => by rw [juratref09_Few.l0]) ?_
    refine ev_pos (by omega) (ev_pos (by omega) ?_)
    rw [rdOf_at xs k hlt, wrap_nat (by omega), List.drop_eq_getElem_cons hlt, List.all_cons]
    by_cases h : (xs[k].size : Int) ≤ b
    · exact ev_neg (by omega) (ev_eq (ih (k + 1) (by omega)) (by simp [h]))
    · exact ev_pos (by omega) (ev_eq ev_now (by simp [h]))
theorem few_ev (xs : List ByteArray) (a b : Int) (hl : xs.length ≤ 9223372036854775806) : Ev (fun n => juratref09_Few.f n xs a b) (few xs a b) := by
  unfold juratref09_Few.f few
  by_cases h : (xs.length : Int) ≤ a
  · exact ev_neg (by omega) (ev_eq (few_l0 xs b hl xs.length 0 (by omega)) (by simp [h]))
  · exact ev_pos (by omega) (ev_eq ev_now (by simp [h]))
end Go.Proofs.Ythgjckibnojnpaa
