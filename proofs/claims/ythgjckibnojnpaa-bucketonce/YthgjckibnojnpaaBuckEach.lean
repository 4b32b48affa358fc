/- Buckets: going through one. -/
import Derived.Test.YthgjckibnojnpaaBuckM
set_option linter.unusedVariables false
set_option linter.unusedSimpArgs false
namespace Go.Proofs.Ythgjckibnojnpaa
open Go.RowKit Go.Shelf Go.Proofs.YthgjckibnojnpaaW.PrintWords Go.Proofs.YthgjckibnojnpaaW.PrintLast Pl
attribute [local go_sem] Oper.semAt_some

theorem take_snoc {zs : List Int} {k : Nat} (hk : k < zs.length) : zs.take (k + 1) = zs.take k ++ [zs[k]] := by rw [List.take_append_getElem]

set_option maxRecDepth 100000 in
set_option maxHeartbeats 2000000 in
theorem each1_in (F : Fence) (n : Nat) (h7 : F.fn 92) (hro : F.round = none) (hn : 1 ≤ n) (l B1 B2 g : Nat) (xs : List ByteArray) (c0 : Nat) (hc0 : c0 < 256) (hlen : xs.length ≤ 1000000) (w0 : World) (hT : BukAt w0 g xs) (J Jx : List Int → World → Prop)
    (hJd : ∀ W m, J [] W → J [] (W.drewN m))
    (hY : ∀ pre x W, J pre W → pre.length < (idsTo xs xs.length c0).length → YieldAt F (n - 1) Try.prog l #[.int .i64 x] W fun e W' =>
      (e = .returned (.bool true) ∧ J (pre ++ [x]) W' ∧ Below w0.heap.size W W') ∨ (e = .returned (.bool false) ∧ Jx (pre ++ [x]) W'))
    (W : World) (hW : Below w0.heap.size w0 W) (hB1 : W.cell? ⟨B1, 0, none⟩ = some (.pointer (some ⟨g, 0, none⟩))) (hB2 : W.cell? ⟨B2, 0, none⟩ = some (.int .u8 c0)) (h0 : J [] W) :
    CallsIn F n Try.prog 92 #[.func (.yield l) #[] #[], .pointer (some ⟨B1, 0, none⟩), .pointer (some ⟨B2, 0, none⟩)] W fun e W' => (∃ v, e = .returned v) ∧
      ((∃ ys, ys = idsTo xs xs.length c0 ∧ J ys W') ∨ (∃ pre, pre <+: idsTo xs xs.length c0 ∧ Jx pre W')) := by
  obtain ⟨A, cap, hcell, hcap, hC⟩ := hT.row c0 hc0
  have hL := idsTo_le xs xs.length c0
  have hcellW := (hW.cell (p := ⟨g, c0, none⟩) hT.lt).trans hcell
  have hlt := hT.lt
  have dd1 : decide ((c0 : Int) < 256) = true := by simp; omega
  have dd2 : ((c0 : Int) < 256) = True := eq_true (by omega)
  generalize idsTo xs xs.length (c0 : Int) = zs at *
  replace hC := Aside0.mk hC
  clear hcell hT
  refine callsIn_of_wp Try.func92 rfl h7 ?_ hro
  simp only [Try.ntmps92, List.size_toArray, List.length_cons, List.length_nil, Nat.reduceAdd, Nat.reduceSub, Array.replicate_succ, Array.replicate_zero, List.push_toArray, List.append_toArray, List.nil_append, List.cons_append]
  gi_wp2
  have hWd : Below w0.heap.size w0 W.drew := hW.drew
  have hJ0 : J [] W.drew := hJd W 1 h0
  clear hW h0 hJd
  replace hWd := Aside0.mk hWd
  gi_region
  all_goals
    clear hB1 hB2 hcellW
    generalize W.drew = Wd at hWd hJ0 ⊢
    gi_wp2
    gi_loopw [15] (fun i wr => ∃ k : Nat, k ≤ zs.length ∧ i = .int .i64 k ∧ J (zs.take k) wr ∧ Below w0.heap.size w0 wr) (fun i _ => zs.length - (intOf i).toNat)
    case atStart => exact ⟨0, Nat.zero_le _, rfl, hJ0, hWd.out⟩
    case round =>
      obtain ⟨k, hk, rfl, hJs, hnx⟩ := hrel
      by_cases hlt2 : k < zs.length
      · obtain ⟨fn, tmps, assign, body, hy, hR⟩ := hY _ zs[k] wr hJs (by rw [List.length_take]; omega)
        obtain ⟨ad, e, hcell0⟩ := Kd.at_int hC.out (k : Int) (by omega) (by omega)
        subst e
        have hcx := (hnx.cell (World.block_lt_of_cell? w0 _ hcell0)).trans hcell0
        have hrd : rd zs k = zs[k] := by simp [rd, List.getElem?_eq_getElem hlt2]
        rw [hrd, Int.toNat_natCast] at hcx
        clear hcell0
        gi_wp2
        refine hR.mono ?_
        rintro e W3 (⟨rfl, hJ3, hk3⟩ | ⟨rfl, hJx3⟩)
        · gi_wp2
          go_roundw
          case rel => exact ⟨k + 1, by omega, by simp, by rw [take_snoc hlt2]; exact hJ3, hnx.trans hk3⟩
          case measure => simp [intOf]; omega
        · gi_wp2
          refine bodyPost_ret (results_none rfl _ _ _) rfl ?_
          exact ⟨⟨_, rfl⟩, .inr ⟨zs.take (k + 1), List.take_prefix _ _, by rw [take_snoc hlt2]; exact hJx3⟩⟩
      · obtain rfl : k = zs.length := by omega
        gi_wp2
        go_end0
        exact ⟨⟨_, rfl⟩, .inl ⟨_, rfl, by rw [List.take_length] at hJs; exact hJs⟩⟩
end Go.Proofs.Ythgjckibnojnpaa
