/- What a set tells: how many patterns, one of them, how long they are, all of them. -/
import Derived.Test.YthgjckibnojnpaaPats
set_option linter.unusedVariables false
set_option linter.unusedSimpArgs false
namespace Go.Proofs.Ythgjckibnojnpaa
open Go.RowKit Go.Proofs.YthgjckibnojnpaaW.PrintWords Pl

theorem SetAt.cells {w : World} {g : Nat} {xs : List ByteArray} (h : SetAt w g xs) : ∃ A c, w.cell? ⟨g, 0, none⟩ = some (.slice A xs.length c) ∧ w.cell? ⟨g, 1, none⟩ = some (.int .i64 (least xs)) ∧ w.cell? ⟨g, 2, none⟩ = some (.int .i64 (most xs)) ∧ w.cell? ⟨g, 3, none⟩ = some (.int .i64 (total xs)) ∧
    Kd.C Kd.string w A xs.length xs ∧ xs.length ≤ c := by
  obtain ⟨v, hb, A, c, rfl, hc, hC⟩ := h
  exact ⟨A, c, hb.cell 0, hb.cell 1, hb.cell 2, hb.cell 3, hC, hc⟩

theorem setLeast (v : Value) (xs : List ByteArray) (w : World) (h : SetV w v xs) : Calls Try.prog 82 #[v] w fun e w' => e = .returned (.int .i64 (least xs)) ∧ w = w' := by
  rcases h with ⟨rfl, rfl⟩ | ⟨g, rfl, h, hne⟩
  · go_enter Try.func82, Try.ntmps82
    go_wp2
    go_ret
    exact ⟨rfl, rfl⟩
  · obtain ⟨A, c, c0, c1, c2, c3, hC, hc⟩ := h.cells
    replace h := Aside0.mk h
    replace hC := Aside0.mk hC
    go_enter Try.func82, Try.ntmps82
    go_wp2
    go_ret
    exact ⟨rfl, rfl⟩
theorem setMost (v : Value) (xs : List ByteArray) (w : World) (h : SetV w v xs) : Calls Try.prog 103 #[v] w fun e w' => e = .returned (.int .i64 (most xs)) ∧ w = w' := by
  rcases h with ⟨rfl, rfl⟩ | ⟨g, rfl, h, hne⟩
  · go_enter Try.func103, Try.ntmps103
    go_wp2
    go_ret
    exact ⟨rfl, rfl⟩
  · obtain ⟨A, c, c0, c1, c2, c3, hC, hc⟩ := h.cells
    replace h := Aside0.mk h
    replace hC := Aside0.mk hC
    go_enter Try.func103, Try.ntmps103
    go_wp2
    go_ret
    exact ⟨rfl, rfl⟩
theorem setTotal (v : Value) (xs : List ByteArray) (w : World) (h : SetV w v xs) : Calls Try.prog 45 #[v] w fun e w' => e = .returned (.int .i64 (total xs)) ∧ w = w' := by
  rcases h with ⟨rfl, rfl⟩ | ⟨g, rfl, h, hne⟩
  · go_enter Try.func45, Try.ntmps45
    go_wp2
    go_ret
    exact ⟨rfl, rfl⟩
  · obtain ⟨A, c, c0, c1, c2, c3, hC, hc⟩ := h.cells
    replace h := Aside0.mk h
    replace hC := Aside0.mk hC
    go_enter Try.func45, Try.ntmps45
    go_wp2
    go_ret
    exact ⟨rfl, rfl⟩
theorem setLen (v : Value) (xs : List ByteArray) (w : World) (h : SetV w v xs) : Calls Try.prog 40 #[v] w fun e w' => e = .returned (.int .i64 xs.length) ∧ w = w' := by
  rcases h with ⟨rfl, rfl⟩ | ⟨g, rfl, h, hne⟩
  · go_enter Try.func40, Try.ntmps40
    go_wp2
    go_ret
    exact ⟨rfl, rfl⟩
  · obtain ⟨A, c, c0, c1, c2, c3, hC, hc⟩ := h.cells
    replace h := Aside0.mk h
    replace hC := Aside0.mk hC
    go_enter Try.func40, Try.ntmps40
    go_wp2
    go_ret
    exact ⟨rfl, rfl⟩

/-- A row read, cloned. -/
theorem clone_any (A : Option Addr) (c : Nat) (xs : List ByteArray) (w : World) (hr : Kd.C Kd.string w A xs.length xs) (hl : xs.length * 16 ≤ 140737488355328) :
    Calls Try.prog 101 #[.slice A xs.length c] w fun e w' => ∃ v, e = .returned v ∧ Kd.R Kd.string 9 w' w.heap.size (fun _ => True) v xs ∧ Below w.heap.size w w' := by
  rcases Nat.eq_zero_or_pos xs.length with h0 | hp
  · have hx : xs = [] := List.eq_nil_of_length_eq_zero h0
    subst hx
    cases A with
    | none => exact (Try.slices_Clone_string_nil 0 c w).mono fun _ _ ⟨he, hw⟩ => ⟨_, he, Kd.R_nil _ _ _ _ _, by rw [hw]; exact Below.refl _ _⟩
    | some a => exact (Try.slices_Clone_string_zero a c w).mono fun _ _ ⟨v, he, hown, _, hb⟩ => ⟨_, he, Kd.R_of_own (h1 := fun _ => rfl) hown (fun _ _ => trivial), hb⟩
  · obtain ⟨b, o, rfl, hb, hc⟩ := C_form hr hp
    refine (Try.slices_Clone_string b o xs.length c xs w (Nat.le_refl _) hl hc).mono fun _ _ ⟨v, he, hown, _, hb⟩ => ⟨_, he, ?_, hb⟩
    rw [List.take_length] at hown
    exact Kd.R_of_own (h1 := fun _ => rfl) hown (fun _ _ => trivial)

theorem setList (v : Value) (xs : List ByteArray) (w : World) (h : SetV w v xs) (hl : xs.length * 16 ≤ 140737488355328) :
    Calls Try.prog 61 #[v] w fun e w' => ∃ u, e = .returned u ∧ Kd.R Kd.string 9 w' w.heap.size (fun _ => True) u xs ∧ Below w.heap.size w w' := by
  rcases h with ⟨rfl, rfl⟩ | ⟨g, rfl, h, hne⟩
  · go_enter Try.func61, Try.ntmps61
    go_wp2_with fail
    go_ret
    exact ⟨_, rfl, Kd.R_nil _ _ _ _ _, Below.refl _ _⟩
  · obtain ⟨A, c, c0, c1, c2, c3, hC, hc⟩ := h.cells
    have hcl := clone_any A c xs w hC hl
    replace h := Aside0.mk h
    replace hC := Aside0.mk hC
    go_enter Try.func61, Try.ntmps61
    go_wp2_with (go_at_call 101; refine hcl.mono ?_; rintro e w' ⟨u, rfl, hu, hb⟩)
    replace hu := Aside0.mk hu
    replace hb := Aside0.mk hb
    go_ret
    exact ⟨_, rfl, hu.out, hb.out⟩
end Go.Proofs.Ythgjckibnojnpaa
