/- Buckets: Each and Of. -/
import Derived.Test.YthgjckibnojnpaaBuckEach
set_option linter.unusedVariables false
set_option linter.unusedSimpArgs false
namespace Go.Proofs.Ythgjckibnojnpaa
open Go.RowKit Go.Shelf Go.Proofs.YthgjckibnojnpaaW.PrintWords Go.Proofs.YthgjckibnojnpaaW.PrintLast Pl
attribute [local go_sem] Oper.semAt_some

set_option maxHeartbeats 1000000 in
theorem each_in (F : Fence) (n : Nat) (h5 : F.fn 41) (hro : F.round = none) (p : Option Addr) (c : Int) (w : World) :
    CallsIn F n Try.prog 41 #[.pointer p, .int .u8 c] w fun e w' => e = .returned (.func (.func 92) #[] #[.pointer (some ⟨w.heap.size, 0, none⟩), .pointer (some ⟨w.heap.size + 1, 0, none⟩)]) ∧ w' = (w.alloc (.cells #[.pointer p] 39)).alloc (.cells #[.int .u8 c] 5) := by
  refine callsIn_of_wp Try.func41 rfl h5 ?_ hro
  simp only [Try.ntmps41, List.size_toArray, List.length_cons, List.length_nil, Nat.reduceAdd, Nat.reduceSub, Array.replicate_succ, Array.replicate_zero, List.push_toArray, List.append_toArray, List.nil_append, List.cons_append]
  gi_wp2
  go_ret
  exact ⟨rfl, rfl⟩

theorem grownBy_drewN (W : World) (m : Nat) : W.grownBy (W.drewN m) none := ⟨rfl, rfl, rfl, Nat.le_refl _, fun _ _ _ => rfl⟩

/-- Each hands back a value that goes through the bucket. -/
theorem each_stops (F : Fence) (n : Nat) (h7 : F.fn 92) (hro : F.round = none) (hn : 1 ≤ n) (B1 B2 g : Nat) (xs : List ByteArray) (c0 : Nat) (hc0 : c0 < 256) (hlen : xs.length ≤ 1000000) (w0 w : World) (hT : BukAt w0 g xs) (hw : Below w0.heap.size w0 w)
    (hB1 : w.cell? ⟨B1, 0, none⟩ = some (.pointer (some ⟨g, 0, none⟩))) (hB2 : w.cell? ⟨B2, 0, none⟩ = some (.int .u8 c0)) :
    SeqStopsK F n Try.prog 92 #[.pointer (some ⟨B1, 0, none⟩), .pointer (some ⟨B2, 0, none⟩)] (fun x : Int => #[Value.int .i64 x]) (Below w0.heap.size) (fun ys => ys = idsTo xs xs.length c0) (fun pre => pre <+: idsTo xs xs.length c0) (idsTo xs xs.length c0).length w := fun l J Jx W hW hJ _ hY h0 =>
  each1_in F n h7 hro hn l B1 B2 g xs c0 hc0 hlen w0 hT J Jx (fun W m h => hJ _ _ _ _ h (grownBy_drewN W m) (fun r e => by cases e)) hY W (hw.trans (hW.mono hw.size))
    ((hW.cell (p := ⟨B1, 0, none⟩) (World.block_lt_of_cell? w _ hB1)).trans hB1) ((hW.cell (p := ⟨B2, 0, none⟩) (World.block_lt_of_cell? w _ hB2)).trans hB2) h0

set_option maxRecDepth 100000 in
set_option maxHeartbeats 2000000 in
theorem of_in (F : Fence) (n : Nat) (h3 : F.fn 30) (h4 : F.fn 41) (h5 : F.fn 92) (hro : F.round = none) (hn : 3 ≤ n) (g : Nat) (xs : List ByteArray) (c0 : Nat) (hc0 : c0 < 256) (hlen : xs.length ≤ 1000000) (w : World) (hT : BukAt w g xs) :
    CallsIn F n Try.prog 30 #[.pointer (some ⟨g, 0, none⟩), .int .u8 c0] w fun e W' => ∃ v, e = .returned v ∧ W'.ownsRow w.heap.size 3 1 v (idsTo xs xs.length c0).length ((idsTo xs xs.length c0).map (Value.int .i64)) ∧ Below w.heap.size w W' := by
  have h1 : 1 ≤ n := by omega
  have hLe := idsTo_le xs xs.length c0
  obtain ⟨i0, hi, hz0, hz1, hz2⟩ := info_parts PA.info3
  replace hT := Aside0.mk hT
  refine callsIn_of_wp_marks Try.func30 rfl h3 ?_ hro
  simp only [Try.ntmps30, List.size_toArray, List.length_cons, List.length_nil, Nat.reduceAdd, Nat.reduceSub, Array.replicate_succ, Array.replicate_zero, List.push_toArray, List.append_toArray, List.nil_append, List.cons_append]
  gi_wp2_with (gi_at_call 41; refine (each_in F (n - 1) h4 hro _ _ _).mono ?_; rintro e w' ⟨rfl, rfl⟩)
  have bO := Boxed.new w 42 (.slice none 0 0)
  have bN := Boxed.new (w.alloc (.cells #[.slice none 0 0] 42)) 39 (.pointer (some ⟨g, 0, none⟩))
  have bC := Boxed.new ((w.alloc (.cells #[.slice none 0 0] 42)).alloc (.cells #[.pointer (some ⟨g, 0, none⟩)] 39)) 5 (.int .u8 c0)
  rw [World.size_alloc] at bN
  rw [World.size_alloc, World.size_alloc] at bC
  have hB0 : Below w.heap.size w (((w.alloc (.cells #[.slice none 0 0] 42)).alloc (.cells #[.pointer (some ⟨g, 0, none⟩)] 39)).alloc (.cells #[.int .u8 c0] 5)) := (((Below.refl _ w).alloc (Nat.le_refl _) _).alloc (by simp) _).alloc (by simp; omega) _
  refine wpIn_rangeFunc_ownG hro h1 (gf := 92) (lb := #[.pointer (some ⟨w.heap.size + 1, 0, none⟩), .pointer (some ⟨w.heap.size + 1 + 1, 0, none⟩)]) rfl h5 (enters_of Try.func92 (by kernel_rfl) rfl)
    (each_stops F (n - 1) h5 hro (by omega) (w.heap.size + 1) (w.heap.size + 1 + 1) g xs c0 hc0 hlen w _ hT.out hB0 (bN.alloc _).cell bC.cell) belowK_t (belowK_b (by simp; omega)) (Below.refl _ _) (fun _ => rfl)
    (fun pre W => (∃ v, Boxed W w.heap.size 42 v ∧ W.ownsRow w.heap.size 3 1 v pre.length (pre.map (Value.int .i64)) ∧ True) ∧ Below w.heap.size w W)
    (fun _ _ _ => False)
    (OwnFrom.and (Own.from (holdsRow_own w.heap.size w.heap.size 42 3 1 (fun pre : List Int => pre.length) (fun pre => pre.map (Value.int .i64)) (fun pre v => True)) _) (ownFrom_below (Nat.le_refl _) (by simp; omega)))
    (fun _ _ _ _ _ hs _ _ => hs)
    ⟨⟨_, (bO.alloc _).alloc _, World.ownsRow_nil _ _ _ _, trivial⟩, hB0⟩
    (fun x => { tmps := #[.pointer (some ⟨g, 0, none⟩), .int .u8 c0, undef, undef, .slice none 0 0, .pointer (some ⟨w.heap.size, 0, none⟩), .int .i64 x, .pointer (some ⟨g, 0, none⟩), .bool false, .pointer (some ⟨g, 0, none⟩), .int .u8 c0, .func (.func 92) #[] #[.pointer (some ⟨w.heap.size + 1, 0, none⟩), .pointer (some ⟨w.heap.size + 1 + 1, 0, none⟩)], .int .i64 x, undef, undef, undef, undef, undef], defers := [] }) ?assign ?body ?done ?stop
  case assign =>
    intro l x W K hK
    gi_wp2
    exact hK
  case body =>
    rintro l pre x W ⟨⟨v, hv, hrow, _⟩, hB⟩ hlt
    have hc := hv.cell
    gi_wp2_with (gi_at_builtin; refine wpListIn_append_own _ rfl _ _ 42 rfl w.heap.size 3 i0 (.int .i64 0) 1 8 Try.underlying42 hi hz0 hz1 hz2 rfl (by decide) _ _ _ rfl (hrow.alloc _) ⟨W.heap.size, 0, none⟩ 1 1 [.int .i64 x] rfl rfl (cell_one_new _ _ _) (by simp [Value.oneCell']) (by simp only [maxLen]; omega) (by omega) (by have := hB.size; simp; omega) ?_; intro v' w1 hown' hgrow _; obtain ⟨g', cap', rfl⟩ := ownsRow_succ hown'; obtain ⟨hv1, hv2, hr2, hk2, hb2⟩ := hv.appended (by decide) hrow hB.size (Nat.le_refl _) hown' hgrow; have hc1 := hv1.cell; have hf1 := hv1.frozen)
    exact ⟨hk2.from _, hb2, ⟨_, hv2, by simpa using hr2, trivial⟩, hB.trans hb2⟩
  case done =>
    rintro D ys W hD rfl ⟨⟨v, hv, hrow, _⟩, hB⟩ hK
    have hc := hv.cell
    gi_wp2
    refine ⟨by simp, .inl ⟨_, _, rfl, run_takeDeferred hK, ?_⟩⟩
    exact ⟨_, results_tmp rfl _ _ _, v, rfl, ownsRow_putObj hrow _ hK rfl, hB.trans (belowK_b (w := w) (Nat.le_refl _) W D _ _ (by simp at hD; omega) hK rfl rfl)⟩
  case stop =>
    rintro D c pre W _ _ h _
    exact h.elim
/-- Of: its numbers, in a row of their own. -/
theorem buckOf (g : Nat) (xs : List ByteArray) (c0 : Nat) (hc0 : c0 < 256) (hlen : xs.length ≤ 1000000) (w : World) (hT : BukAt w g xs) :
    Calls Try.prog 30 #[.pointer (some ⟨g, 0, none⟩), .int .u8 c0] w fun e W' => ∃ v, e = .returned v ∧ Kd.R (Kd.int .i64) 3 W' w.heap.size (fun _ => True) v (idsTo xs xs.length c0) ∧ Below w.heap.size w W' := by
  refine (callsIn_wide.1 (of_in Fence.wide 3 trivial trivial trivial rfl (Nat.le_refl _) g xs c0 hc0 hlen w hT)).mono ?_
  rintro e W' ⟨v, rfl, ho, hb⟩
  exact ⟨v, rfl, Kd.R_of_own ho (fun _ _ => trivial), hb⟩
end Go.Proofs.Ythgjckibnojnpaa
