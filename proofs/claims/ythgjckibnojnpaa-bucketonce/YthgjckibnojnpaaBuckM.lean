/- Buckets: what is read of them, the range over a bucket with it. -/
import Derived.Test.YthgjckibnojnpaaBuck
import Derived.RangeFuncBox
import Derived.RangeFuncLeaves
import Derived.Shelf.Abstract
import Derived.WalkKit
import Derived.OwnWalkIn
import Derived.TacticsInMore
import Derived.LoopNIn
import Derived.LoopIn
import Derived.Maps.AppendAt
set_option linter.unusedVariables false
set_option linter.unusedSimpArgs false
namespace Go.Proofs.Ythgjckibnojnpaa
open Go.RowKit Go.Shelf Go.Proofs.YthgjckibnojnpaaW.PrintWords Go.Proofs.YthgjckibnojnpaaW.PrintLast Pl

/-- Buckets as they are read. -/
structure BukAt (W : World) (g : Nat) (xs : List ByteArray) : Prop where
  lt : g < W.heap.size
  row : ∀ c : Nat, c < 256 → ∃ A cap, W.cell? ⟨g, c, none⟩ = some (.slice A (idsTo xs xs.length c).length cap) ∧ (idsTo xs xs.length c).length ≤ cap ∧ Kd.C (Kd.int .i64) W A (idsTo xs xs.length c).length (idsTo xs xs.length c)
  least : ∀ c : Nat, c < 256 → W.cell? ⟨g, 256 + c, none⟩ = some (.int .i64 (mn (lensTo xs xs.length c)))
theorem BukIn.at_ {W : World} {B g : Nat} {xs : List ByteArray} (h : BukIn W B g (fun c => idsTo xs xs.length c) (fun c => mn (lensTo xs xs.length c))) : BukAt W g xs := by
  obtain ⟨cs, own, hO⟩ := h
  refine ⟨hO.blk.lt, fun c hc => ?_, fun c hc => (hO.blk.cell _).trans (hO.least c hc)⟩
  obtain ⟨v, h1, h2⟩ := hO.row c hc
  obtain ⟨A, cap, rfl⟩ := Kd.R_slice h2
  have h3 := Kd.R_reads' h2
  exact ⟨A, cap, (hO.blk.cell _).trans h1, h3.2.1, h3.2.2⟩
theorem BukAt.below {W W2 : World} {g : Nat} {xs : List ByteArray} (h : BukAt W g xs) (hb : Below W.heap.size W W2) : BukAt W2 g xs := by
  refine ⟨Nat.lt_of_lt_of_le h.lt hb.size, fun c hc => ?_, fun c hc => (hb.cell (p := ⟨g, 256 + c, none⟩) h.lt).trans (h.least c hc)⟩
  obtain ⟨A, cap, h1, h2, h3⟩ := h.row c hc
  exact ⟨A, cap, (hb.cell (p := ⟨g, c, none⟩) h.lt).trans h1, h2, Kd.C_below h3 hb⟩

theorem buckLeast (g : Nat) (xs : List ByteArray) (c : Nat) (hc : c < 256) (w : World) (h : BukAt w g xs) :
    Calls Try.prog 32 #[.pointer (some ⟨g, 0, none⟩), .int .u8 c] w fun e w' => e = .returned (.int .i64 (mn (lensTo xs xs.length c))) ∧ w = w' := by
  have h1 := h.least c hc
  have dd1 : decide ((c : Int) < 256) = true := by simp; omega
  have dd2 : ((c : Int) < 256) = True := eq_true (by omega)
  replace h := Aside0.mk h
  go_enter Try.func32, Try.ntmps32
  go_wp2
  go_ret
  exact ⟨rfl, rfl⟩
theorem buckLeastNil (c : Int) (w : World) :
    Calls Try.prog 32 #[.pointer none, .int .u8 c] w fun e w' => e = .returned (.int .i64 0) ∧ w = w' := by
  go_enter Try.func32, Try.ntmps32
  go_wp2
  go_ret
  exact ⟨rfl, rfl⟩
theorem buckBytesNil (w : World) :
    Calls Try.prog 34 #[.pointer none] w fun e w' => e = .returned (.string ByteArray.empty) ∧ w = w' := by
  go_enter Try.func34, Try.ntmps34
  go_wp2
  go_ret
  exact ⟨rfl, rfl⟩
theorem buckOfNil (c : Int) (w : World) :
    Calls Try.prog 30 #[.pointer none, .int .u8 c] w fun e w' => e = .returned (.slice none 0 0) ∧ w = w' := by
  go_enter Try.func30, Try.ntmps30
  go_wp2
  go_ret
  exact ⟨rfl, rfl⟩
def bytesTo (xs : List ByteArray) (k : Nat) : List Int := ((List.range k).filter (fun c : Nat => decide (0 < (idsTo xs xs.length (c : Int)).length))).map (fun c : Nat => (c : Int))
theorem bytesTo_succ (xs : List ByteArray) (k : Nat) : bytesTo xs (k + 1) = if 0 < (idsTo xs xs.length (k : Int)).length then bytesTo xs k ++ [(k : Int)] else bytesTo xs k := by
  unfold bytesTo
  rw [List.range_succ, List.filter_append, List.map_append]
  by_cases h : 0 < (idsTo xs xs.length (k : Int)).length
  · rw [if_pos h, List.filter_cons_of_pos (by simpa using h)]; rfl
  · rw [if_neg h, List.filter_cons_of_neg (by simpa using h)]; simp
theorem bytesTo_le (xs : List ByteArray) (k : Nat) : (bytesTo xs k).length ≤ k := by
  unfold bytesTo
  rw [List.length_map]
  exact Nat.le_trans (List.length_filter_le _ _) (by simp)
set_option maxHeartbeats 1000000 in
set_option maxRecDepth 20000 in
theorem buckBytes (g : Nat) (xs : List ByteArray) (w : World) (h : BukAt w g xs) :
    Calls Try.prog 34 #[.pointer (some ⟨g, 0, none⟩)] w fun e w' => e = .returned (.string (strOfNums (bytesTo xs 256))) ∧ Below w.heap.size w w' := by
  replace h := Aside0.mk h
  go_enter Try.func34, Try.ntmps34
  go_wp2
  go_loopw [3, 7] (fun o i wr => ∃ (k : Nat), k ≤ 256 ∧ i = .int .i64 k ∧ Aside0 (Kd.R (Kd.int .u8) 5 wr w.heap.size (fun _ => True) o (bytesTo xs k)) ∧ Aside0 (Below w.heap.size w wr)) (fun _ i _ => 256 - (intOf i).toNat)
  case atStart => exact ⟨0, by omega, rfl, ⟨Kd.R_nil ..⟩, ⟨Below.refl _ _⟩⟩
  case round =>
    obtain ⟨k, hk, rfl, hR, hB⟩ := hrel
    have hle := bytesTo_le xs k
    by_cases hlt : k < 256
    · have d0 : decide ((k : Int) < 256) = true := by simp; omega
      have d1 : ((k : Int) < 256) = True := eq_true (by omega)
      have e1 : (k : Int) % 256 = k := by omega
      obtain ⟨A, cap, hc, _, _⟩ := h.out.row k hlt
      have hc1 := (hB.out.cell (p := ⟨g, k, none⟩) h.out.lt).trans hc
      clear hc
      have hs := bytesTo_succ xs k
      by_cases hp : 0 < (idsTo xs xs.length (k : Int)).length
      · have d2 : decide (0 < ((idsTo xs xs.length (k : Int)).length : Int)) = true := by simpa using hp
        have d3 : decide (0 < (idsTo xs xs.length (k : Int)).length) = true := by simpa using hp
        rw [if_pos hp] at hs
        replace hs := Lib.hid hs
        clear hp
        go_wp2_with ((with_reducible refine gate_builtin (b := .append) (xs := #[.tmp 18, .tmp 21]) rfl ?_); (try (refine gate_guard (by rfl) ?_; dsimp only)); at_builtin; refine Kd.R_append (Kd.int .u8) (w0 := w) w.heap.size rfl (.tmp 18) (.tmp 21) 66 5 (.int .u8 0) 1 rfl Try.underlying66 PA.info5 rfl (by decide) (by omega) u3 (bytesTo xs k) (k : Int) [.int .u8 k] (fun _ => True) (fun _ => False) rfl rfl ?aP (fun _ hk => hk.elim) ?aF ?aO ?aB ?aS ?aL ?_; (case aP => exact rfl); (case aF => exact (fun _ _ => trivial)); (case aO => exact hR.out); (case aB => exact hB.out); (case aS => exact hB.out.size); (case aL => omega); intro v1 w1 ho hb hg hat; rw [← hs.out] at ho; replace ho := Aside0.mk ho; replace hb := Aside0.mk hb; clear hg hat hB hR hc1)
        exact ⟨⟨k + 1, by omega, by go_num, ho, hb⟩, by simp [intOf]; omega⟩
      · have d2 : decide (0 < ((idsTo xs xs.length (k : Int)).length : Int)) = false := by simpa using hp
        have d3 : decide (0 < (idsTo xs xs.length (k : Int)).length) = false := by simpa using hp
        rw [if_neg hp] at hs
        replace hs := Lib.hid hs
        clear hp
        go_wp2
        exact ⟨⟨k + 1, by omega, by go_num, by rw [hs.out]; exact hR, hB⟩, by simp [intOf]; omega⟩
    · have d0 : decide ((k : Int) < 256) = false := by simp; omega
      obtain rfl : k = 256 := by omega
      have hcv := own_string (P := Try.prog) Try.underlying66 Try.underlying5 Try.underlying9 (Kd.own_of_R hR.out)
      go_wp2
      go_ret
      exact ⟨rfl, hB.out⟩
end Go.Proofs.Ythgjckibnojnpaa
