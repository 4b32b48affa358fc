/- The bytes of numbers, one behind the other. -/
import Derived.Test.YthgjckibnojnpaaVarint
set_option linter.unusedVariables false
set_option linter.unusedSimpArgs false
namespace Go.Proofs.Ythgjckibnojnpaa
open Go.RowKit Go.Proofs.YthgjckibnojnpaaW.PrintWords Go.Proofs.YthgjckibnojnpaaW.PrintLast Pl

theorem putL_byte (n : Nat) : ∀ x ∈ putL n, 0 ≤ x ∧ x < 256 := by
  induction n using Nat.strongRecOn with
  | _ n ih =>
    intro x hx
    by_cases h : n < 128
    · rw [putL_lt h, List.mem_singleton] at hx
      omega
    · rw [putL_ge (by omega)] at hx
      rcases List.mem_cons.1 hx with rfl | hx
      · omega
      · exact ih (n / 128) (by omega) x hx
theorem putL_length (n : Nat) : (putL n).length ≤ n + 1 := by
  induction n using Nat.strongRecOn with
  | _ n ih =>
    by_cases h : n < 128
    · rw [putL_lt h]; simp
    · rw [putL_ge (by omega), List.length_cons]
      have := ih (n / 128) (by omega)
      omega
theorem bytesOf_strOfNums (l : List Int) (h : ∀ x ∈ l, 0 ≤ x ∧ x < 256) : bytesOf (strOfNums l) = l := by
  unfold bytesOf
  rw [strOfNums_data, List.map_map]
  refine (List.map_congr_left (fun x hx => ?_)).trans (List.map_id _)
  have := h x hx
  simp only [Function.comp, UInt8.toNat_ofNat', id]
  omega
theorem bytesOf_putV (n : Nat) : bytesOf (putV n) = putL n := bytesOf_strOfNums _ (putL_byte n)
theorem putV_size (n : Nat) : (putV n).size = (putL n).length := strOfNums_size _

def putLs (ns : List Nat) : List Int := ns.flatMap putL
theorem putLs_le (ns : List Nat) (h : ∀ n ∈ ns, n ≤ 16777216) : (putLs ns).length ≤ ns.length * 16777217 := by
  induction ns with
  | nil => simp [putLs]
  | cons n ns ih =>
    have h1 := putL_length n
    have h2 := h n List.mem_cons_self
    have h3 := ih (fun m hm => h m (List.mem_cons_of_mem _ hm))
    unfold putLs at h3 ⊢
    rw [List.flatMap_cons, List.length_append, List.length_cons]
    omega
set_option maxHeartbeats 1000000 in
set_option maxRecDepth 20000 in
theorem allAny (A : Option Addr) (c : Nat) (ns : List Nat) (w : World) (hC : Kd.C (Kd.int .i64) w A ns.length (ns.map (fun n : Nat => (n : Int)))) (hns : ∀ n ∈ ns, n ≤ 16777216) (hlen : ns.length ≤ 100) :
    Calls Try.prog 88 #[.slice A ns.length c] w fun e w' => e = .returned (.string (strOfNums (putLs ns))) ∧ Below w.heap.size w w' := by
  replace hC := Aside0.mk hC
  go_enter Try.func88, Try.ntmps88
  go_wp2
  go_loopw [3, 8] (fun b i wr => ∃ (k : Nat), i = .int .i64 k ∧ k ≤ ns.length ∧ Aside0 (Kd.R (Kd.int .u8) 5 wr w.heap.size (fun _ => True) b (putLs (ns.take k))) ∧ Aside0 (Below w.heap.size w wr)) (fun _ i _ => ns.length - (intOf i).toNat)
  case atStart => exact ⟨0, rfl, by omega, ⟨Kd.R_nil ..⟩, ⟨Below.refl _ _⟩⟩
  case round =>
    obtain ⟨k, rfl, hk, hR, hB⟩ := hrel
    by_cases hlt : k < ns.length
    · have d1 : decide ((k : Int) < ns.length) = true := by simp; omega
      obtain ⟨ad, e, hcell0⟩ := Kd.at_int hC.out (k : Int) (by omega) (by omega)
      subst e
      have hcx := (hB.out.cell (World.block_lt_of_cell? w _ hcell0)).trans hcell0
      have hrd : rd (ns.map (fun n : Nat => (n : Int))) k = (ns[k] : Nat) := by simp [rd, hlt]
      rw [hrd, Int.toNat_natCast] at hcx
      clear hcell0 hrd
      have hn := hns _ (List.getElem_mem hlt)
      have hle := putLs_le (ns.take k) (fun n h => hns n (List.mem_of_mem_take h))
      rw [List.length_take, Nat.min_eq_left hk] at hle
      have htk : putLs (ns.take (k + 1)) = putLs (ns.take k) ++ bytesOf (putV ns[k]) := by
        unfold putLs
        rw [bytesOf_putV, List.take_succ_eq_append_getElem hlt, List.flatMap_append, List.flatMap_cons, List.flatMap_nil, List.append_nil]
      have hsz := putV_size ns[k]
      have hsz2 := putL_length ns[k]
      generalize ns[k] = n at hn htk hcx hsz hsz2
      replace htk := Lib.hid htk
      go_wp2_with fail
      refine (putAny n (by omega) _).mono ?_
      rintro e w1 ⟨rfl, hb1⟩
      replace hR := Aside0.mk (Kd.R_below hR.out hb1)
      replace hB := Aside0.mk (Below.then_ hB.out hb1)
      clear hb1 hcx
      go_wp2_with ((with_reducible refine gate_builtin (b := .append) (xs := #[.tmp 12, .tmp 14]) rfl ?_); (try (refine gate_guard (by rfl) ?_; dsimp only)); at_builtin; refine print_append_str (w0 := w) w.heap.size rfl (.tmp 12) (.tmp 14) 66 9 5 rfl Try.underlying66 Try.underlying9 PA.info5 u3 (putLs (ns.take k)) (putV n) rfl rfl (Kd.own_of_R hR.out) hB.out hB.out.size ?aL ?_; (case aL => omega); intro v1 w2 ho hb hg; rw [← htk.out] at ho; replace ho := Aside0.mk (show Kd.R (Kd.int .u8) 5 w2 w.heap.size (fun _ => True) v1 (putLs (ns.take (k + 1))) from Kd.R_of_own ho (fun _ _ => trivial)); replace hb := Aside0.mk hb; clear hg hB hR)
      exact ⟨⟨k + 1, by go_num, by omega, ho, hb⟩, by simp [intOf]; omega⟩
    · have d1 : decide ((k : Int) < ns.length) = false := by simp; omega
      obtain rfl : k = ns.length := by omega
      rw [List.take_length] at hR
      have hcv := own_string (P := Try.prog) Try.underlying66 Try.underlying5 Try.underlying9 (Kd.own_of_R hR.out)
      go_wp2
      go_ret
      exact ⟨rfl, hB.out⟩
end Go.Proofs.Ythgjckibnojnpaa
