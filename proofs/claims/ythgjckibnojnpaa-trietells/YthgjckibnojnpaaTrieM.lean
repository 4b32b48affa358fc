/- The trie in memory: its readers. The trie in memory, as it is made: the states' row, the row of those that wait. -/
import Derived.Test.YthgjckibnojnpaaMem
import Derived.Test.YthgjckibnojnpaaEv
import Derived.Test.YthgjckibnojnpaaTrieP
import Derived.Deep.DeepCutAuto
import Derived.Deep.RegionHeld3
import Derived.Handy
set_option linter.unusedVariables false
set_option linter.unusedSimpArgs false
namespace Go.Proofs.Ythgjckibnojnpaa
open Go.RowKit Go.Proofs.YthgjckibnojnpaaW.PrintWords Pl

def Pl.TS.cells (t : TS) : List Value := [.int .i64 t.above, .int .u8 t.by_, .int .i64 t.depth, .int .i64 t.id, .int .i64 t.first, .int .i64 t.many]
/-- A trie whose states these are. -/
structure TrieAt (W : World) (g : Nat) (sts : List TS) : Prop where
  lt : g < W.heap.size
  row : ∃ q cap, W.cell? ⟨g, 0, none⟩ = some (.slice (some ⟨q, 0, none⟩) sts.length cap) ∧ sts.length ≤ cap ∧ q < W.heap.size ∧ ∀ (s : Nat) (h : s < sts.length) (j : Nat), j < 6 → W.cell? ⟨q, s * 6 + j, none⟩ = sts[s].cells[j]?
  len : sts.length ≤ 16777217
theorem TrieAt.below {W W2 : World} {g : Nat} {sts : List TS} (h : TrieAt W g sts) (hb : Below W.heap.size W W2) : TrieAt W2 g sts := by
  obtain ⟨q, cap, h1, h2, h3, h4⟩ := h.row
  exact ⟨Nat.lt_of_lt_of_le h.lt hb.size, ⟨q, cap, (hb.cell (p := ⟨g, 0, none⟩) h.lt).trans h1, h2, Nat.lt_of_lt_of_le h3 hb.size, fun s hs j hj => (hb.cell (p := ⟨q, s * 6 + j, none⟩) h3).trans (h4 s hs j hj)⟩, h.len⟩

theorem trieLen (g : Nat) (sts : List TS) (w : World) (h : TrieAt w g sts) : Calls Try.prog 44 #[.pointer (some ⟨g, 0, none⟩)] w fun e w' => e = .returned (.int .i64 sts.length) ∧ w = w' := by
  obtain ⟨q, cap, h1, h2, h3, h4⟩ := h.row
  replace h := Aside0.mk h
  replace h4 := Aside0.mk h4
  go_enter Try.func44, Try.ntmps44
  go_wp2
  go_ret
  exact ⟨rfl, rfl⟩
theorem trieLenNil (w : World) : Calls Try.prog 44 #[.pointer none] w fun e w' => e = .returned (.int .i64 0) ∧ w = w' := by
  go_enter Try.func44, Try.ntmps44
  go_wp2
  go_ret
  exact ⟨rfl, rfl⟩
/-- Is there such a state? (p: the trie, or none) -/
theorem trieIs (p : Option Addr) (N : Nat) (s : Int) (w : World) (hL : Calls Try.prog 44 #[.pointer p] w fun e w' => e = .returned (.int .i64 N) ∧ w = w') :
    Calls Try.prog 94 #[.pointer p, .int .i64 s] w fun e w' => e = .returned (.bool (decide (0 ≤ s ∧ s < N))) ∧ w = w' := by
  replace hL := Aside0.mk hL
  by_cases h0 : 0 ≤ s
  · have d0 : decide (0 ≤ s) = true := by simpa using h0
    go_enter Try.func94, Try.ntmps94
    go_wp2_with fail
    refine hL.out.mono ?_
    rintro e w' ⟨rfl, rfl⟩
    go_wp2
    go_ret
    exact ⟨by congr 2 <;> simp [h0], rfl⟩
  · have d0 : decide (0 ≤ s) = false := by simpa using h0
    go_enter Try.func94, Try.ntmps94
    go_wp2
    go_ret
    exact ⟨by congr 2 <;> simp [h0], rfl⟩
theorem trieDepth (g : Nat) (sts : List TS) (s : Nat) (hs : s < sts.length) (w : World) (h : TrieAt w g sts) : Calls Try.prog 48 #[.pointer (some ⟨g, 0, none⟩), .int .i64 s] w fun e w' => e = .returned (.int .i64 sts[s].depth) ∧ w = w' := by
  have hi := trieIs _ _ s w (trieLen g sts w h)
  rw [decide_eq_true (show (0 : Int) ≤ s ∧ (s : Int) < sts.length by omega)] at hi
  obtain ⟨q, cap, h1, h2, h3, h4⟩ := h.row
  have hc := h4 s hs 2 (by omega)
  have x1 : ((0 : Int) ≤ (s : Int)) = True := eq_true (by omega)
  have x2 : ((s : Int) < (sts.length : Int)) = True := eq_true (by omega)
  simp only [TS.cells, List.getElem?_cons_succ, List.getElem?_cons_zero] at hc
  generalize sts[s].depth = d at hc ⊢
  replace h := Aside0.mk h
  replace h4 := Aside0.mk h4
  replace hi := Aside0.mk hi
  go_enter Try.func48, Try.ntmps48
  go_wp2_with fail
  refine hi.out.mono ?_
  rintro e w' ⟨rfl, rfl⟩
  go_wp2
  go_ret
  exact ⟨rfl, rfl⟩
theorem trieDepthNo (p : Option Addr) (N : Nat) (s : Int) (hs : ¬ (0 ≤ s ∧ s < N)) (w : World) (hL : Calls Try.prog 44 #[.pointer p] w fun e w' => e = .returned (.int .i64 N) ∧ w = w') :
    Calls Try.prog 48 #[.pointer p, .int .i64 s] w fun e w' => e = .returned (.int .i64 0) ∧ w = w' := by
  have hi := trieIs p N s w hL
  rw [decide_eq_false hs] at hi
  replace hi := Aside0.mk hi
  clear hL hs
  go_enter Try.func48, Try.ntmps48
  go_wp2_with fail
  refine hi.out.mono ?_
  rintro e w' ⟨rfl, rfl⟩
  go_wp2
  go_ret
  exact ⟨rfl, rfl⟩
theorem trieEndsNo (p : Option Addr) (N : Nat) (s : Int) (hs : ¬ (0 ≤ s ∧ s < N)) (w : World) (hL : Calls Try.prog 44 #[.pointer p] w fun e w' => e = .returned (.int .i64 N) ∧ w = w') :
    Calls Try.prog 52 #[.pointer p, .int .i64 s] w fun e w' => e = .returned (.tuple #[.int .i64 0, .bool false]) ∧ w = w' := by
  have hi := trieIs p N s w hL
  rw [decide_eq_false hs] at hi
  replace hi := Aside0.mk hi
  clear hL hs
  go_enter Try.func52, Try.ntmps52
  go_wp2_with fail
  refine hi.out.mono ?_
  rintro e w' ⟨rfl, rfl⟩
  go_wp2
  go_ret2
  exact ⟨rfl, rfl⟩
theorem trieEnds (g : Nat) (sts : List TS) (s : Nat) (hs : s < sts.length) (w : World) (h : TrieAt w g sts) : Calls Try.prog 52 #[.pointer (some ⟨g, 0, none⟩), .int .i64 s] w fun e w' => e = .returned (if sts[s].id < 0 then .tuple #[.int .i64 0, .bool false] else .tuple #[.int .i64 sts[s].id, .bool true]) ∧ w = w' := by
  have hi := trieIs _ _ s w (trieLen g sts w h)
  rw [decide_eq_true (show (0 : Int) ≤ s ∧ (s : Int) < sts.length by omega)] at hi
  obtain ⟨q, cap, h1, h2, h3, h4⟩ := h.row
  have x1 : ((0 : Int) ≤ (s : Int)) = True := eq_true (by omega)
  have x2 : ((s : Int) < (sts.length : Int)) = True := eq_true (by omega)
  have hc := h4 s hs 3 (by omega)
  simp only [TS.cells, List.getElem?_cons_succ, List.getElem?_cons_zero] at hc
  generalize sts[s].id = d at hc ⊢
  replace h := Aside0.mk h
  replace h4 := Aside0.mk h4
  replace hi := Aside0.mk hi
  by_cases hd : d < 0
  · have f1 : decide (d < 0) = true := by simpa using hd
    rw [if_pos hd]
    clear hd
    go_enter Try.func52, Try.ntmps52
    go_wp2_with fail
    refine hi.out.mono ?_
    rintro e w' ⟨rfl, rfl⟩
    go_wp2
    go_ret2
    exact ⟨rfl, rfl⟩
  · have f1 : decide (d < 0) = false := by simpa using hd
    rw [if_neg hd]
    clear hd
    go_enter Try.func52, Try.ntmps52
    go_wp2_with fail
    refine hi.out.mono ?_
    rintro e w' ⟨rfl, rfl⟩
    go_wp2
    go_ret2
    exact ⟨rfl, rfl⟩
theorem trieAboveNo (p : Option Addr) (N : Nat) (s : Int) (hs : ¬ (0 ≤ s ∧ s < N)) (w : World) (hL : Calls Try.prog 44 #[.pointer p] w fun e w' => e = .returned (.int .i64 N) ∧ w = w') :
    Calls Try.prog 46 #[.pointer p, .int .i64 s] w fun e w' => e = .returned (.tuple #[.int .i64 0, .int .u8 0, .bool false]) ∧ w = w' := by
  have hi := trieIs p N s w hL
  rw [decide_eq_false hs] at hi
  replace hi := Aside0.mk hi
  clear hL hs
  go_enter Try.func46, Try.ntmps46
  go_wp2_with fail
  refine hi.out.mono ?_
  rintro e w' ⟨rfl, rfl⟩
  go_wp2
  go_ret3
  exact ⟨rfl, rfl⟩
theorem trieAbove (g : Nat) (sts : List TS) (s : Nat) (h0 : 0 < s) (hs : s < sts.length) (w : World) (h : TrieAt w g sts) : Calls Try.prog 46 #[.pointer (some ⟨g, 0, none⟩), .int .i64 s] w fun e w' => e = .returned (.tuple #[.int .i64 sts[s].above, .int .u8 sts[s].by_, .bool true]) ∧ ∃ n, w' = w.drewN n := by
  have hi := trieIs _ _ s w (trieLen g sts w h)
  rw [decide_eq_true (show (0 : Int) ≤ s ∧ (s : Int) < sts.length by omega)] at hi
  obtain ⟨q, cap, h1, h2, h3, h4⟩ := h.row
  have x1 : ((0 : Int) ≤ (s : Int)) = True := eq_true (by omega)
  have x2 : ((s : Int) < (sts.length : Int)) = True := eq_true (by omega)
  have hc := h4 s hs 0 (by omega)
  have hd := h4 s hs 1 (by omega)
  simp only [TS.cells, List.getElem?_cons_succ, List.getElem?_cons_zero, Nat.add_zero] at hc hd
  have y1 : ((s : Int) == 0) = false := by simp; omega
  have y2 : (s == 0) = false := by simp; omega
  generalize sts[s].above = a at hc ⊢
  generalize sts[s].by_ = c at hd ⊢
  replace h := Aside0.mk h
  replace h4 := Aside0.mk h4
  replace hi := Aside0.mk hi
  go_enter Try.func46, Try.ntmps46
  go_wp2_with fail
  refine hi.out.mono ?_
  rintro e w' ⟨rfl, rfl⟩
  go_wp2
  go_quiet (fail)
  go_wp2
  go_ret3
  exact ⟨rfl, _, rfl⟩
theorem trieAboveRoot (g : Nat) (sts : List TS) (hs : 0 < sts.length) (w : World) (h : TrieAt w g sts) : Calls Try.prog 46 #[.pointer (some ⟨g, 0, none⟩), .int .i64 0] w fun e w' => e = .returned (.tuple #[.int .i64 0, .int .u8 0, .bool false]) ∧ w = w' := by
  have hi := trieIs _ _ 0 w (trieLen g sts w h)
  rw [decide_eq_true (show (0 : Int) ≤ 0 ∧ (0 : Int) < sts.length by omega)] at hi
  replace h := Aside0.mk h
  replace hi := Aside0.mk hi
  go_enter Try.func46, Try.ntmps46
  go_wp2_with fail
  refine hi.out.mono ?_
  rintro e w' ⟨rfl, rfl⟩
  go_wp2
  go_ret3
  exact ⟨rfl, rfl⟩
end Go.Proofs.Ythgjckibnojnpaa
namespace Go.Proofs.Ythgjckibnojnpaa
open Go.RowKit Go.Proofs.YthgjckibnojnpaaW.PrintWords Pl

def Pl.TJ.cells (j : TJ) : List Value := [.int .i64 j.st, .int .i64 j.lo, .int .i64 j.hi]
/-- States as elements of a row. -/
def KS : Kd TS where
  sz := 6
  E := []
  K _ t cs := cs = t.cells
  M _ _ _ t cs := cs = t.cells
  K_len h := by rw [h]; rfl
  K_one h u hu := by rw [h] at hu; simp only [TS.cells, List.mem_cons, List.not_mem_nil, or_false] at hu; rcases hu with rfl | rfl | rfl | rfl | rfl | rfl <;> rfl
  K_below _ h := h
  K_of_M h := h
  M_mono _ h := h
  M_bound h := h
  M_move _ h := h
  M_lower _ h := h
def KJ : Kd TJ where
  sz := 3
  E := []
  K _ t cs := cs = t.cells
  M _ _ _ t cs := cs = t.cells
  K_len h := by rw [h]; rfl
  K_one h u hu := by rw [h] at hu; simp only [TJ.cells, List.mem_cons, List.not_mem_nil, or_false] at hu; rcases hu with rfl | rfl | rfl <;> rfl
  K_below _ h := h
  K_of_M h := h
  M_mono _ h := h
  M_bound h := h
  M_move _ h := h
  M_lower _ h := h
theorem bat_at (s : ByteArray) (n : Nat) (h : n < s.size) : bat s n = ((s[n]'h).toNat : Int) := by
  unfold bat
  rw [tx_get, List.getD_eq_getElem?_getD, List.getElem?_eq_getElem (by rw [tx_length]; exact h)]
  rfl
abbrev anyB : Nat → Prop := fun _ => True
/-- A trie that is being made: its block is g, its states' row is q's. -/
structure TMut (W : World) (B g : Nat) (v : Value) (sts : List TS) : Prop where
  blk : Blk W g 124 #[v]
  base : B ≤ g
  row : KS.R 121 W B anyB v sts
theorem TMut.below {W W2 : World} {B g : Nat} {v : Value} {sts : List TS} (h : TMut W B g v sts) (hb : Below W.heap.size W W2) : TMut W2 B g v sts := ⟨h.blk.below hb h.blk.lt, h.base, Kd.R_below h.row hb⟩
/-- The states' row: where it is. -/
theorem TMut.form {W : World} {B g : Nat} {v : Value} {sts : List TS} (h : TMut W B g v sts) (hp : 0 < sts.length) : ∃ q cap, v = .slice (some ⟨q, 0, none⟩) sts.length cap ∧ sts.length ≤ cap ∧ q < W.heap.size ∧ B ≤ q ∧ q ≠ g := by
  obtain ⟨inner, ho⟩ := Kd.R_own h.row
  obtain ⟨q, cap, rfl, _⟩ := ho.form hp
  have hne : some g ≠ some q := Kd.R_ne h.row h.blk (by decide)
  exact ⟨q, cap, rfl, own_cap ho, own_lt ho q rfl, own_base ho q rfl, fun e => hne (by rw [e])⟩
/-- A state's cells. -/
theorem TMut.cell {W : World} {B g q n cap : Nat} {sts : List TS} (h : TMut W B g (.slice (some ⟨q, 0, none⟩) n cap) sts) {s : Nat} {t : TS} (ht : sts[s]? = some t) (j : Nat) (hj : j < 6) :
    W.cell? ⟨q, s * 6 + j, none⟩ = t.cells[j]? ∧ W.frozen? ⟨q, s * 6 + j, none⟩ = false := by
  obtain ⟨hn, _, _⟩ := Kd.R_reads' h.row
  have hs := (List.getElem?_eq_some_iff.1 ht).1
  obtain ⟨c, c1, c2, c3, c4⟩ := Kd.R_elem h.row ⟨0, 0, 0, 0, 0, 0⟩ (s : Int) (by omega) (by omega)
  simp only [Int.toNat_natCast, List.getD_eq_getElem?_getD, ht, Option.getD_some] at c2 c3 c4
  have c2 : c = t.cells := c2
  subst c2
  have hl : j < t.cells.length := hj
  exact ⟨(c3 j _ (List.getElem?_eq_getElem hl)).trans (List.getElem?_eq_getElem hl).symm, c4 j⟩
/-- A field of a state is written. -/
theorem TMut.store {W : World} {B g q n cap : Nat} {sts : List TS} (h : TMut W B g (.slice (some ⟨q, 0, none⟩) n cap) sts) {s : Nat} {t t' : TS} (ht : sts[s]? = some t) (j : Nat) (hj : j < 6) (u : Value) (hu : t'.cells = t.cells.set j u) :
    TMut (W.setCell ⟨q, s * 6 + j, none⟩ u) B g (.slice (some ⟨q, 0, none⟩) n cap) (sts.set s t') ∧ W.grownBy (W.setCell ⟨q, s * 6 + j, none⟩ u) (some q) := by
  obtain ⟨hn, _, _⟩ := Kd.R_reads' h.row
  have hs := (List.getElem?_eq_some_iff.1 ht).1
  have hne : some g ≠ some q := Kd.R_ne h.row h.blk (by decide)
  have hM : KS.M W B (fun k => k ≠ q) t' (t.cells.take j ++ [u] ++ t.cells.drop (j + [u].length)) := by
    refine Eq.symm (a := t'.cells) ?_
    rw [hu, List.set_eq_take_append_cons_drop, if_pos (show j < t.cells.length from hj)]
    simp
  have key := Kd.R_seg h.row (s : Int) (by omega) (by omega) (c := t.cells) (seg := [u]) (j := j) rfl (fun i v hv => by
      have hi : i < 6 := (List.getElem?_eq_some_iff.1 hv).1
      rw [Int.toNat_natCast]
      exact (h.cell ht i hi).1.trans hv) (by show j + 1 ≤ 6; omega) hM (fun k hk => ⟨trivial, hk⟩)
  rw [Int.toNat_natCast] at key
  exact ⟨⟨h.blk.far (fun e => hne (by rw [e])) u, h.base, key.1⟩, key.2⟩
/-- The row of those that wait: what the first one's cells are. -/
theorem job_cell {W : World} {B : Nat} {j : TJ} {J : List TJ} {v : Value} (h : KJ.Q 126 W B anyB v (j :: J)) :
    ∃ q o cap, v = .slice (some ⟨q, o, none⟩) (J.length + 1) cap ∧ J.length + 1 ≤ cap ∧ q < W.heap.size ∧ B ≤ q ∧ ∀ i, i < 3 → W.cell? ⟨q, o + i, none⟩ = j.cells[i]? := by
  obtain ⟨q, o, cap, hv, hb, hq, _⟩ := Kd.Q_form h (by simp)
  subst hv
  obtain ⟨_, hnc, _⟩ := Kd.Q_reads' h
  obtain ⟨c, c1, c2, c3, c4⟩ := Kd.Q_elem h ⟨0, 0, 0⟩ 0 (by omega) (by simp)
  have c2 : c = j.cells := c2
  subst c2
  refine ⟨q, o, cap, rfl, by simpa using hnc, hq, hb, fun i hi => ?_⟩
  have hl : i < j.cells.length := hi
  have := c3 i _ (List.getElem?_eq_getElem hl)
  simp only [Int.toNat_zero, Nat.zero_mul, Nat.add_zero] at this
  exact this.trans (List.getElem?_eq_getElem hl).symm
theorem info_job : (Try.prog.info? 126).map (fun i => (i.zero, i.size, i.bytes)) = some (some (.agg #[.int .i64 0, .int .i64 0, .int .i64 0]), 3, 24) := by kernel_rfl
theorem info_state : (Try.prog.info? 121).map (fun i => (i.zero, i.size, i.bytes)) = some (some (.agg #[.int .i64 0, .int .u8 0, .int .i64 0, .int .i64 0, .int .i64 0, .int .i64 0]), 6, 48) := by kernel_rfl
/-- The world while one state is worked off: the trie, the job's own block b, those that wait. -/
structure PartW (w0 W : World) (g b : Nat) (k : Int) (lo hi : Nat) (v : Value) (sts : List TS) (wv : Value) (J : List TJ) : Prop where
  below : Below w0.heap.size w0 W
  trie : TMut W w0.heap.size g v sts
  job : Blk W b 126 #[.int .i64 k, .int .i64 lo, .int .i64 hi]
  base : w0.heap.size ≤ b
  wait : KJ.Q 126 W w0.heap.size (fun i => i ≠ b) wv J
section
variable {w0 W W2 : World} {g b lo hi : Nat} {k : Int} {v wv : Value} {sts : List TS} {J : List TJ}
theorem PartW.to (h : PartW w0 W g b k lo hi v sts wv J) (hb : Below W.heap.size W W2) : PartW w0 W2 g b k lo hi v sts wv J :=
  ⟨below_then h.below h.below.size hb, h.trie.below hb, h.job.below hb h.job.lt, h.base, Kd.Q_below h.wait hb⟩
theorem PartW.drew (h : PartW w0 W g b k lo hi v sts wv J) : PartW w0 W.drew g b k lo hi v sts wv J := h.to (Below.refl _ _).drew
theorem PartW.drewN (h : PartW w0 W g b k lo hi v sts wv J) (n : Nat) : PartW w0 (W.drewN n) g b k lo hi v sts wv J := h.to (pw_below_drewN (Below.refl _ _) n)
theorem PartW.cells (h : PartW w0 W g b k lo hi v sts wv J) : W.cell? ⟨g, 0, none⟩ = some v ∧ W.frozen? ⟨g, 0, none⟩ = false ∧ W.cell? ⟨b, 0, none⟩ = some (.int .i64 k) ∧ W.cell? ⟨b, 1, none⟩ = some (.int .i64 lo) ∧ W.cell? ⟨b, 2, none⟩ = some (.int .i64 hi) :=
  ⟨h.trie.blk.cell 0, h.trie.blk.frozen 0, h.job.cell 0, h.job.cell 1, h.job.cell 2⟩
theorem PartW.ne (h : PartW w0 W g b k lo hi v sts wv J) : g ≠ b := by
  intro e
  have h1 := h.trie.blk
  have h2 := h.job
  rw [← e] at h2
  unfold Blk at h1 h2
  rw [h1] at h2
  injection h2 with h2
  injection h2 with _ h2
  exact absurd h2 (by decide)
/-- A state's field is written. -/
theorem PartW.store {q n cap : Nat} (h : PartW w0 W g b k lo hi (.slice (some ⟨q, 0, none⟩) n cap) sts wv J) {s : Nat} {t t' : TS} (ht : sts[s]? = some t) (j : Nat) (hj : j < 6) (u : Value) (hu : t'.cells = t.cells.set j u) :
    PartW w0 (W.setCell ⟨q, s * 6 + j, none⟩ u) g b k lo hi (.slice (some ⟨q, 0, none⟩) n cap) (sts.set s t') wv J := by
  obtain ⟨h1, h2⟩ := h.trie.store ht j hj u hu
  have hq : w0.heap.size ≤ q := Kd.R_base h.trie.row q rfl
  have hqb : some b ≠ some q := Kd.R_ne h.trie.row h.job (by decide)
  refine ⟨h.below.setCell hq u, h1, h.job.far (fun e => hqb (by rw [e])) u, h.base, ?_⟩
  have hty := Kd.Q_apart' h.wait (v := .slice (some ⟨q, 0, none⟩) n cap) (e' := 121) (Kd.R_typed h.trie.row) (by intro p hp; simp [KJ] at hp; subst hp; decide)
  exact Kd.Q_mono (Kd.Q_grown hty h2 (fun i hi => hi.2)) (fun i hi => hi.1)
/-- One more waits. -/
theorem PartW.more (h : PartW w0 W g b k lo hi v sts wv J) {w1 : World} {v1 : Value} {J1 : List TJ} (ho : KJ.Q 126 w1 w0.heap.size (fun i => i ≠ b) v1 J1) (hb : Below w0.heap.size w0 w1) (hg : W.grownBy w1 wv.ownBlock) :
    PartW w0 w1 g b k lo hi v sts v1 J1 := by
  have hty := Kd.R_apart' h.trie.row (v := wv) (e' := 126) (Kd.Q_typed h.wait) (by intro p hp; simp [KS] at hp; subst hp; decide)
  have hgne : some g ≠ wv.ownBlock := Kd.Q_ne h.wait h.trie.blk (by decide)
  exact ⟨hb, ⟨h.trie.blk.grown hg hgne, h.trie.base, Kd.R_mono (Kd.R_grown hty hg (fun i hi => hi.2)) (fun i hi => hi.1)⟩, h.job.grown hg (fun e => h.wait.1 b e.symm rfl), h.base, ho⟩
/-- One more state: the row, then the trie's own cell. -/
theorem PartW.state (h : PartW w0 W g b k lo hi v sts wv J) {w1 : World} {v1 : Value} {sts1 : List TS} (ho : KS.R 121 w1 w0.heap.size anyB v1 sts1) (hb : Below w0.heap.size w0 w1) (hg : W.grownBy w1 v.ownBlock) :
    PartW w0 (w1.setCell ⟨g, 0, none⟩ v1) g b k lo hi v1 sts1 wv J := by
  have hgne : some g ≠ v.ownBlock := Kd.R_ne h.trie.row h.trie.blk (by decide)
  have hbne : some b ≠ v.ownBlock := Kd.R_ne h.trie.row h.job (by decide)
  have hblk := h.trie.blk.grown hg hgne
  have hty := Kd.Q_apart' h.wait (v := v) (e' := 121) (Kd.R_typed h.trie.row) (by intro p hp; simp [KJ] at hp; subst hp; decide)
  have hw := Kd.Q_mono (Kd.Q_grown hty hg (fun i hi => hi.2)) (fun i hi => hi.1)
  refine ⟨hb.setCell h.trie.base v1, ⟨hblk.set_ 0 v1, h.trie.base, Kd.R_set ho hblk (by intro p hp; simp [KS] at hp; subst hp; decide) 0 v1⟩, (h.job.grown hg hbne).far (fun e => h.ne e.symm) v1, h.base, Kd.Q_set hw hblk (by intro p hp; simp [KJ] at hp; subst hp; decide) 0 v1⟩
theorem PartW.mid (h : PartW w0 W g b k lo hi v sts wv J) {w1 : World} (hg : W.grownBy w1 v.ownBlock) : w1.cell? ⟨g, 0, none⟩ = some v ∧ w1.frozen? ⟨g, 0, none⟩ = false ∧ w1.cell? ⟨b, 0, none⟩ = some (.int .i64 k) := by
  have hgne : some g ≠ v.ownBlock := Kd.R_ne h.trie.row h.trie.blk (by decide)
  have hbne : some b ≠ v.ownBlock := Kd.R_ne h.trie.row h.job (by decide)
  have hblk := h.trie.blk.grown hg hgne
  exact ⟨hblk.cell 0, hblk.frozen 0, (h.job.grown hg hbne).cell 0⟩
end
end Go.Proofs.Ythgjckibnojnpaa
