/- The walk of affix.Twice: whether one of texts is there twice. -/
import Derived.Test.YthgjckibnojnpaaProg
import Derived.Test.YthgjckibnojnpaaMap
import Derived.WalkKit
import Derived.KernelRfl
set_option linter.unusedVariables false
set_option linter.unusedSimpArgs false
namespace Go.Proofs.Ythgjckibnojnpaa
open Go.RowKit Go.Proofs.YthgjckibnojnpaaW.PrintWords

theorem zero_int (w : World) : (zeroValue 3).run Try.prog w = .ok (.int .i64 0) w := by kernel_rfl
theorem key_string : KeyOk Try.prog 9 Value.string := keyOk_string Try.underlying9

/-- What affix.Twice says. -/
def TwiceSays (xs : List ByteArray) (r : Int) : Prop := (r = -1 ∧ xs.Nodup) ∨ (0 ≤ r ∧ ¬ xs.Nodup)

/-- The map of those that were there: each once. -/
def Been (xs : List ByteArray) (k : Nat) (m : List (ByteArray × Int)) : Prop := (xs.take k).Nodup ∧ ∀ x, (x ∈ xs.take k → getM x m = some 1) ∧ (x ∉ xs.take k → getM x m = none)
theorem Been.step {xs : List ByteArray} {k : Nat} {m : List (ByteArray × Int)} (h : Been xs k m) (hk : k < xs.length) (hn : xs[k] ∉ xs.take k) : Been xs (k + 1) (putM xs[k] 1 m) := by
  have ht : xs.take (k + 1) = xs.take k ++ [xs[k]] := by rw [List.take_succ_eq_append_getElem hk]
  refine ⟨?_, fun x => ?_⟩
  · rw [ht, List.nodup_append]
    exact ⟨h.1, by simp, fun a ha b hb e => by simp at hb; subst hb; subst e; exact hn ha⟩
  · rw [getM_putM, ht]
    by_cases e : x = xs[k]
    · rw [if_pos e]
      exact ⟨fun _ => rfl, fun hx => absurd (List.mem_append_right _ (List.mem_singleton.2 e)) hx⟩
    · rw [if_neg e]
      refine ⟨fun hx => (h.2 x).1 ?_, fun hx => (h.2 x).2 (fun h' => hx (List.mem_append_left _ h'))⟩
      rcases List.mem_append.1 hx with hx | hx
      · exact hx
      · exact absurd (List.mem_singleton.1 hx) e
theorem not_nodup {xs : List ByteArray} {k : Nat} (hk : k < xs.length) (hn : xs[k] ∈ xs.take k) : ¬ xs.Nodup := by
  intro h
  have h2 : (xs.take (k + 1)).Nodup := h.sublist (List.take_sublist _ _)
  rw [List.take_succ_eq_append_getElem hk, List.nodup_append] at h2
  exact h2.2.2 _ hn _ (by simp) rfl

set_option maxHeartbeats 1000000 in
theorem twice_any (A : Option Addr) (c : Nat) (xs : List ByteArray) (w : World) (hr : Kd.C Kd.string w A xs.length xs) :
    Calls Try.prog 78 #[.slice A xs.length c] w fun e w' => ∃ r : Int, e = .returned (.int .i64 r) ∧ TwiceSays xs r ∧ Below w.heap.size w w' := by
  have hmm := @run_makeMap Try.prog
  have hmax : xs.length ≤ 9223372036854775807 := hr.2.1
  have HR := Aside0.mk hr
  clear hr
  go_enter Try.func78, Try.ntmps78
  go_wp2
  go_loopw [9] (fun i wr => ∃ (k : Nat) (m : List (ByteArray × Int)), k ≤ xs.length ∧ i = .int .i64 k ∧ Hid (Been xs k m) ∧ Aside0 (MapAt Value.string wr w.heap.size m) ∧ Aside0 (Below w.heap.size w wr)) (fun i _ => xs.length - (intOf i).toNat)
  case atStart => exact ⟨0, [], by omega, rfl, ⟨by simp, fun x => by simp [getM]⟩, ⟨MapAt.made _ _⟩, ⟨(Below.refl _ _).alloc (Nat.le_refl _) _⟩⟩
  case round =>
    obtain ⟨k, m, hk, rfl, hbeen, hmap, hbel⟩ := hrel
    by_cases hlt : k < xs.length
    · obtain ⟨ad, e, hcell0⟩ := Kd.at_string HR.out (k : Int) (by omega) (by omega)
      cases e
      have hcell : wr.cell? (ad.add k) = some (.string xs[k]) := by
        have := pw_cell_below hbel.out hcell0
        simpa [rdOf, List.getD_eq_getElem?_getD, List.getElem?_eq_getElem hlt] using this
      clear hcell0
      obtain ⟨hl1, _⟩ := run_lookup key_string Try.underlying148 zero_int hmap.out xs[k]
      by_cases hin : xs[k] ∈ xs.take k
      · have hg : (getM xs[k] m).getD 0 = 1 := by rw [(hbeen.out.2 _).1 hin]; rfl
        rw [hg] at hl1
        obtain ⟨w1, hu, hm1, hgr⟩ := run_update key_string Try.underlying148 hmap.out xs[k] 2
        obtain ⟨hl2, _⟩ := run_lookup key_string Try.underlying148 zero_int hm1 xs[k]
        rw [getM_putM, if_pos rfl] at hl2
        simp only [Option.getD_some] at hl2
        have H := Lib.hid (not_nodup hlt hin)
        have HG := Aside0.mk hgr
        clear hgr hg hin hm1
        go_wp2
        go_ret
        exact ⟨k, rfl, .inr ⟨by omega, H.out⟩, hbel.out.grown HG.out hbel.out.size (fun j hj => by cases hj; exact Nat.le_refl _)⟩
      · have hg : (getM xs[k] m).getD 0 = 0 := by rw [(hbeen.out.2 _).2 hin]; rfl
        rw [hg] at hl1
        obtain ⟨w1, hu, hm1, hgr⟩ := run_update key_string Try.underlying148 hmap.out xs[k] 1
        obtain ⟨hl2, _⟩ := run_lookup key_string Try.underlying148 zero_int hm1 xs[k]
        rw [getM_putM, if_pos rfl] at hl2
        simp only [Option.getD_some] at hl2
        have H := Lib.hid (hbeen.out.step hlt hin)
        have HG := Aside0.mk hgr
        have HM := Aside0.mk hm1
        clear hgr hg hin hm1
        go_wp2
        exact ⟨⟨k + 1, _, by omega, by go_num, H, HM, ⟨hbel.out.grown HG.out hbel.out.size (fun j hj => by cases hj; exact Nat.le_refl _)⟩⟩, by simp [intOf]; omega⟩
    · go_wp2
      go_ret
      refine ⟨-1, rfl, .inl ⟨rfl, ?_⟩, hbel.out⟩
      have := hbeen.out.1
      rwa [List.take_of_length_le (by omega)] at this
end Go.Proofs.Ythgjckibnojnpaa
