/- Buckets: what they hold, and that New makes them. -/
import Derived.Test.YthgjckibnojnpaaSetM
import Derived.Test.YthgjckibnojnpaaWLast
import Derived.Test.YthgjckibnojnpaaPAx0
import Derived.Test.YthgjckibnojnpaaSort
import Derived.Test.YthgjckibnojnpaaEv
import Derived.Deep.DeepCutAuto
import Derived.Deep.RegionHeld3
import Derived.Handy
set_option linter.unusedVariables false
set_option linter.unusedSimpArgs false
namespace Go.Proofs.Ythgjckibnojnpaa
open Go.RowKit Go.Proofs.YthgjckibnojnpaaW.PrintWords Go.Proofs.YthgjckibnojnpaaW.PrintLast Pl
namespace Pl
/-- A text's last byte. -/
def lastB (s : ByteArray) : Int := bt s ((s.size : Int) - 1)
def idsTo (xs : List ByteArray) (k : Nat) (c : Int) : List Int := ((List.range k).filter (fun i : Nat => decide (lastB (xs.getD i ByteArray.empty) = c))).map (fun i : Nat => (i : Int))
def mnO (l : List Int) : Option Int := l.foldl (fun o s => match o with | none => some s | some n => if s < n then some s else some n) none
def mn (l : List Int) : Int := (mnO l).getD 0
def lensTo (xs : List ByteArray) (k : Nat) (c : Int) : List Int := (idsTo xs k c).map (fun i => ((rdOf ByteArray.empty xs i).size : Int))
theorem mnO_snoc (l : List Int) (s : Int) : mnO (l ++ [s]) = match mnO l with | none => some s | some n => if s < n then some s else some n := by simp [mnO]
theorem mnO_none (l : List Int) : mnO l = none ↔ l = [] := by
  rcases List.eq_nil_or_concat l with rfl | ⟨l, s, rfl⟩
  · simp [mnO]
  · rw [List.concat_eq_append, mnO_snoc]
    cases h : mnO l with
    | none => simp
    | some n => by_cases h2 : s < n <;> simp [h2]
theorem mn_snoc (l : List Int) (s : Int) : mn (l ++ [s]) = if l = [] ∨ s < mn l then s else mn l := by
  unfold mn
  rw [mnO_snoc]
  cases h : mnO l with
  | none => simp [(mnO_none l).1 h]
  | some n =>
    have : l ≠ [] := fun e => by rw [(mnO_none l).2 e] at h; cases h
    by_cases h2 : s < n <;> simp [this, h2]
theorem idsTo_succ (xs : List ByteArray) (k : Nat) (c : Int) : idsTo xs (k + 1) c = if lastB (xs.getD k ByteArray.empty) = c then idsTo xs k c ++ [(k : Int)] else idsTo xs k c := by
  unfold idsTo
  rw [List.range_succ, List.filter_append, List.map_append]
  by_cases h : lastB (xs.getD k ByteArray.empty) = c
  · rw [if_pos h, List.filter_cons_of_pos (by simpa using h)]; rfl
  · rw [if_neg h, List.filter_cons_of_neg (by simpa using h)]; simp
theorem idsTo_le (xs : List ByteArray) (k : Nat) (c : Int) : (idsTo xs k c).length ≤ k := by
  unfold idsTo
  rw [List.length_map]
  exact Nat.le_trans (List.length_filter_le _ _) (by simp)
theorem lensTo_succ (xs : List ByteArray) (k : Nat) (c : Int) : lensTo xs (k + 1) c = if lastB (xs.getD k ByteArray.empty) = c then lensTo xs k c ++ [((xs.getD k ByteArray.empty).size : Int)] else lensTo xs k c := by
  unfold lensTo
  rw [idsTo_succ]
  split
  · rw [List.map_append]
    simp [rdOf]
  · rfl
end Pl

/-- Buckets being made: each row's blocks are told by an owner function. -/
structure BukO (W : World) (B g : Nat) (cs : Array Value) (own : Nat → Nat) (ids : Nat → List Int) (lst : Nat → Int) : Prop where
  blk : Blk W g 109 cs
  size : cs.size = 512
  row : ∀ c, c < 256 → ∃ v, cs[c]? = some v ∧ Kd.R (Kd.int .i64) 3 W B (fun k => own k = c) v (ids c)
  least : ∀ c, c < 256 → cs[256 + c]? = some (.int .i64 (lst c))
section
variable {W W2 w1 : World} {B g : Nat} {cs : Array Value} {own : Nat → Nat} {ids : Nat → List Int} {lst : Nat → Int}
theorem BukO.below (h : BukO W B g cs own ids lst) (hb : Below W.heap.size W W2) : BukO W2 B g cs own ids lst :=
  ⟨h.blk.below hb h.blk.lt, h.size, fun c hc => by obtain ⟨v, h1, h2⟩ := h.row c hc; exact ⟨v, h1, Kd.R_below h2 hb⟩, h.least⟩
theorem BukO.setLeast (h : BukO W B g cs own ids lst) {c0 : Nat} (hc0 : c0 < 256) (n : Int) :
    BukO (W.setCell ⟨g, 256 + c0, none⟩ (.int .i64 n)) B g (cs.setIfInBounds (256 + c0) (.int .i64 n)) own ids (fun c => if c = c0 then n else lst c) := by
  refine ⟨h.blk.set_ _ _, by simp [h.size], fun c hc => ?_, fun c hc => ?_⟩
  · obtain ⟨v, h1, h2⟩ := h.row c hc
    refine ⟨v, ?_, Kd.R_set h2 h.blk (by simp [Kd.int, Kd.scalar]) _ _⟩
    rw [Array.getElem?_setIfInBounds_ne (by omega)]
    exact h1
  · by_cases e : c = c0
    · subst e
      rw [if_pos rfl, Array.getElem?_setIfInBounds_self_of_lt (by rw [h.size]; omega)]
    · rw [if_neg e, Array.getElem?_setIfInBounds_ne (by omega)]
      exact h.least c hc
theorem BukO.cong {ids2 : Nat → List Int} {lst2 : Nat → Int} (h : BukO W B g cs own ids lst) (h1 : ∀ c, ids2 c = ids c) (h2 : ∀ c, lst2 c = lst c) : BukO W B g cs own ids2 lst2 := by
  obtain rfl : ids2 = ids := funext h1
  obtain rfl : lst2 = lst := funext h2
  exact h
theorem BukO.mine (h : BukO W B g cs own ids lst) {c0 : Nat} {v : Value} (hv : Kd.R (Kd.int .i64) 3 W B (fun k => own k = c0) v (ids c0)) :
    Kd.R (Kd.int .i64) 3 W B (fun k => (if k < W.heap.size then own k else c0) = c0) v (ids c0) :=
  Kd.R_mono (Kd.R_bound hv) (fun k hk => by rw [if_pos hk.2.2.1]; exact hk.1)
theorem BukO.appended (h : BukO W B g cs own ids lst) {c0 : Nat} {v v1 : Value} {x : Int} (hc0 : c0 < 256) (hv : Kd.R (Kd.int .i64) 3 W B (fun k => own k = c0) v (ids c0))
    (ho : Kd.R (Kd.int .i64) 3 w1 B (fun k => (if k < W.heap.size then own k else c0) = c0) v1 (ids c0 ++ [x])) (hg : W.grownBy w1 v.ownBlock) :
    BukO (w1.setCell ⟨g, c0, none⟩ v1) B g (cs.setIfInBounds c0 v1) (fun k => if k < W.heap.size then own k else c0) (fun c => if c = c0 then ids c0 ++ [x] else ids c) lst := by
  have hne : some g ≠ v.ownBlock := Kd.R_ne hv h.blk (by decide)
  have hbk := h.blk.grown hg hne
  refine ⟨hbk.set_ _ _, by simp [h.size], fun c hc => ?_, fun c hc => ?_⟩
  · by_cases e : c = c0
    · subst e
      refine ⟨v1, Array.getElem?_setIfInBounds_self_of_lt (by rw [h.size]; omega), ?_⟩
      rw [if_pos rfl]
      exact Kd.R_set ho hbk (by simp [Kd.int, Kd.scalar]) _ _
    · obtain ⟨u, h1, h2⟩ := h.row c hc
      refine ⟨u, ?_, ?_⟩
      · rw [Array.getElem?_setIfInBounds_ne (by omega)]
        exact h1
      · rw [if_neg e]
        have h3 : Kd.R (Kd.int .i64) 3 W B (fun k => (if k < W.heap.size then own k else c0) = c) u (ids c) := Kd.R_mono (Kd.R_bound h2) (fun k hk => by rw [if_pos hk.2.2.1]; exact hk.1)
        refine Kd.R_set (Kd.R_grown h3 hg (fun k hk e2 => ?_)) hbk (by simp [Kd.int, Kd.scalar]) _ _
        have h4 := hv.1 k e2.symm
        have h5 := Kd.R_lt hv k e2.symm
        rw [if_pos h5] at hk
        omega
  · rw [Array.getElem?_setIfInBounds_ne (by omega)]
    exact h.least c hc
theorem strs_grown {ok : Nat → Prop} {u v : Value} {xs : List ByteArray} {ok2 : Nat → Prop} {ys : List Int} (h : Kd.R Kd.string 9 W B ok u xs) (hv : Kd.R (Kd.int .i64) 3 W B ok2 v ys) (hg : W.grownBy w1 v.ownBlock) : Kd.R Kd.string 9 w1 B ok u xs :=
  Kd.R_mono (Kd.R_grown (Kd.R_bound h) hg (fun k hk e => by
    obtain ⟨_, _, _, q, hq, cells, hc⟩ := hk
    obtain ⟨cells', hc'⟩ := Kd.R_typed hv k e.symm
    rw [hc] at hc'
    injection hc' with hc'
    injection hc' with _ hc'
    subst hc'
    simp [Kd.string, Kd.scalar] at hq)) (fun _ hk => hk.1)
end
def BukIn (W : World) (B g : Nat) (ids : Nat → List Int) (lst : Nat → Int) : Prop := ∃ cs own, BukO W B g cs own ids lst
theorem z109' : Try.zeroCells109 = Array.replicate 256 (.slice none 0 0) ++ Array.replicate 256 (.int .i64 0) := by kernel_rfl
theorem z109 : Try.zeroCells109.size = 512 ∧ (∀ c, c < 256 → Try.zeroCells109[c]? = some (.slice none 0 0)) ∧ ∀ c, c < 256 → Try.zeroCells109[256 + c]? = some (.int .i64 0) := by
  rw [z109']
  refine ⟨by simp, fun c hc => ?_, fun c hc => ?_⟩
  · rw [Array.getElem?_append_left (by simpa using hc)]
    simp [hc]
  · rw [Array.getElem?_append_right (by simp)]
    simp [hc]
set_option maxHeartbeats 2000000 in
set_option maxRecDepth 20000 in
theorem buckNew (v : Value) (xs : List ByteArray) (w : World) (h : SetV w v xs) (hl : xs.length * 16 ≤ 140737488351232) (hf : Fit xs) (hpos : ∀ s ∈ xs, 0 < s.size) :
    Calls Try.prog 28 #[v] w fun e w' => ∃ g, e = .returned (.pointer (some ⟨g, 0, none⟩)) ∧ BukIn w' w.heap.size g (fun c => idsTo xs xs.length c) (fun c => mn (lensTo xs xs.length c)) ∧ Below w.heap.size w w' := by
  have hli := setList v xs _ (h.below ((Below.refl w.heap.size w).alloc (Nat.le_refl _) (.cells Try.zeroCells109 109))) (by omega)
  have hb0 : Below w.heap.size w (w.alloc (.cells Try.zeroCells109 109)) := (Below.refl w.heap.size w).alloc (Nat.le_refl _) _
  have hk0 := Blk.new w 109 Try.zeroCells109
  go_enter Try.func28, Try.ntmps28
  go_wp2_with fail
  refine hli.mono ?_
  rintro e w1 ⟨u, rfl, hR, hb⟩
  have hblk := hk0.below hb (by simp)
  have hin : BukIn w1 w.heap.size w.heap.size (fun c => idsTo xs 0 c) (fun c => mn (lensTo xs 0 c)) :=
    ⟨_, fun _ => 0, ⟨hblk, z109.1, fun c hc => ⟨_, z109.2.1 c hc, Kd.R_nil ..⟩, fun c hc => z109.2.2 c hc⟩⟩
  have hb1 : Below w.heap.size w w1 := hb0.trans (hb.mono (by simp))
  have hR1 : Kd.R Kd.string 9 w1 w.heap.size (fun _ => True) u xs := Kd.R_lower hR (by simp)
  obtain ⟨A, c, rfl⟩ := Kd.R_slice hR1
  have hlen := (Sl.of_R hR1).len
  replace hR1 := Aside0.mk hR1
  replace hin := Aside0.mk hin
  replace hb1 := Aside0.mk hb1
  clear hR hb hb0 hk0 hblk hli
  go_wp2
  go_loopw [12] (fun i wr => ∃ (k : Nat), k ≤ xs.length ∧ i = .int .i64 k ∧ Aside0 (BukIn wr w.heap.size w.heap.size (fun c => idsTo xs k c) (fun c => mn (lensTo xs k c))) ∧
    Aside0 (Kd.R Kd.string 9 wr w.heap.size (fun _ => True) (.slice A xs.length c) xs) ∧ Aside0 (Below w.heap.size w wr)) (fun i _ => xs.length - (intOf i).toNat)
  case atStart => exact ⟨0, by omega, rfl, hin, hR1, hb1⟩
  case round =>
    clear hin hR1 hb1
    obtain ⟨k, hk, rfl, hin, hR1, hb1⟩ := hrel
    by_cases hlt : k < xs.length
    · obtain ⟨ad, e, hcell0⟩ := Kd.at_string (Kd.R_reads' hR1.out).2.2 (k : Int) (by omega) (by omega)
      cases e
      have hcell : wr.cell? (ad.add k) = some (.string xs[k]) := by
        simpa [rdOf, List.getD_eq_getElem?_getD, List.getElem?_eq_getElem hlt] using hcell0
      have hs63 := hf xs[k] (List.getElem_mem hlt)
      have hs1 := hpos xs[k] (List.getElem_mem hlt)
      have hgk : xs.getD k ByteArray.empty = xs[k] := by rw [List.getD_eq_getElem?_getD, List.getElem?_eq_getElem hlt]; rfl
      clear hcell0
      generalize hs : xs[k] = s at hs63 hs1 hgk hcell
      clear hs
      obtain ⟨i1, hi1, hi1l⟩ : ∃ i1 : Nat, (s.size : Int) - 1 = i1 ∧ i1 < s.size := ⟨s.size - 1, by omega, by omega⟩
      have e3 : IntKind.i64.wrap (i1 : Int) = i1 := by rw [IntKind.wrap_i64]; omega
      have hlast : lastB s = ((s[i1]'hi1l).toNat : Int) := by unfold lastB; rw [hi1, ← bt_at s i1 (by simpa using hi1l)]; rfl
      have hlt256 : (s[i1]'hi1l).toNat < 256 := UInt8.toNat_lt _
      obtain ⟨cs, own, hO⟩ := hin.out
      clear hin
      generalize hc0 : (s[i1]'hi1l).toNat = c0 at hlast hlt256
      obtain ⟨v0, hv0, hR0⟩ := hO.row c0 hlt256
      have hL := idsTo_le xs k c0
      obtain ⟨A0, cap0, rfl⟩ := Kd.R_slice hR0
      have hcv := (hO.blk.cell c0).trans hv0
      have hcl := (hO.blk.cell (256 + c0)).trans (hO.least c0 hlt256)
      have hfz := fun i => hO.blk.frozen i
      have hfc := hfz c0
      have hfl := hfz (256 + c0)
      clear hfz
      have hgkc : wr.heap.size > w.heap.size := hO.blk.lt
      have dd1 : decide ((c0 : Int) < 256) = true := by simp; omega
      have dd2 : ((c0 : Int) < 256) = True := eq_true (by omega)
      replace hgk : Hid (xs.getD k ByteArray.empty = s ∧ lastB s = (c0 : Int)) := Lib.hid ⟨hgk, hlast⟩
      clear hlast
      replace hL := Aside0.mk hL
      replace hR0 := Aside0.mk hR0
      replace hO := Aside0.mk hO
      cases hLc : idsTo xs k c0 with
      | nil =>
        rw [hLc] at hcv
        go_wp2
        have hb2 := hb1.out.setCell (p := ⟨w.heap.size, 256 + c0, none⟩) (Nat.le_refl _) (.int .i64 s.size)
        have hO2 := hO.out.setLeast hlt256 s.size
        have hR2 := Kd.R_set hR1.out hO.out.blk (by simp [Kd.string, Kd.scalar]) (256 + c0) (.int .i64 s.size)
        generalize wr.setCell ⟨w.heap.size, 256 + c0, none⟩ (.int .i64 s.size) = W at hb2 hO2 hR2 ⊢
        generalize cs.setIfInBounds (256 + c0) (.int .i64 s.size) = cs2 at hO2
        clear hO hR1 hb1 hcv hcl hfc hfl hcell hR0 hgkc
        have hdr : Below W.heap.size W W.drew := (Below.refl _ _).drew
        have hb3 := hb2.trans (hdr.mono hb2.size)
        have hO3 := hO2.below hdr
        have hR3 := Kd.R_below hR2 hdr
        clear hb2 hO2 hR2 hdr
        obtain ⟨v2, hv2, hRr⟩ := hO3.row c0 hlt256
        obtain ⟨A2, c2, rfl⟩ := Kd.R_slice hRr
        have hcv2 := (hO3.blk.cell c0).trans hv2
        have hfc2 := hO3.blk.frozen c0
        have hRm := hO3.mine hRr
        replace hb3 := Aside0.mk hb3
        replace hO3 := Aside0.mk hO3
        replace hR3 := Aside0.mk hR3
        replace hRm := Aside0.mk hRm
        replace hRr := Aside0.mk hRr
        replace hv2 := Aside0.mk hv2
        replace hLc := Lib.hid hLc
        refine start_ (n := 15) (S := fun w' => w'.cell? ⟨w.heap.size, c0, none⟩ = some (.slice A2 (idsTo xs k c0).length c2) ∧ w'.frozen? ⟨w.heap.size, c0, none⟩ = false) (ds := [14]) #[false, false, false, false, false, false, false, false, false, false, false, false, false, false, false] (by kernel_rfl) rfl rfl ⟨hcv2, hfc2⟩ (fun hHeld => ?_)
        generalize W.drew = Wd at hb3 hO3 hR3 hRr hRm hHeld ⊢
        clear hcv2 hfc2
        refine pure_ (i := 0) (N := some 48) (v := ?_) (a' := ?_) #[true, false, false, false, false, false, false, false, false, false, false, false, false, false, false] rfl rfl (by kernel_rfl) (fun _ _ _ h => h) (Or.inl ⟨by rfl, ?_⟩) ?_ ?_
        rotate_left
        · intro w'
          go_simp
          with_reducible rfl
        rotate_left
        · simp only [Act.put, List.setIfInBounds_toArray, List.set_cons_zero, List.set_cons_succ, i64_w, i32_w]
          rfl
        refine pure_ (i := 1) (N := some 49) (v := ?_) (a' := ?_) #[true, true, false, false, false, false, false, false, false, false, false, false, false, false, false] rfl rfl (by kernel_rfl) (fun _ _ _ h => h) (Or.inl ⟨by rfl, ?_⟩) ?_ ?_
        rotate_left
        · intro w'
          go_simp
          with_reducible rfl
        rotate_left
        · simp only [Act.put, List.setIfInBounds_toArray, List.set_cons_zero, List.set_cons_succ, i64_w, i32_w]
          rfl
        refine pure_ (i := 2) (N := some 50) (v := ?_) (a' := ?_) #[true, true, true, false, false, false, false, false, false, false, false, false, false, false, false] rfl rfl (by kernel_rfl) (fun _ _ _ h => h) (Or.inl ⟨by rfl, ?_⟩) ?_ ?_
        rotate_left
        · intro w'
          go_simp
          with_reducible rfl
        rotate_left
        · simp only [Act.put, List.setIfInBounds_toArray, List.set_cons_zero, List.set_cons_succ, i64_w, i32_w]
          rfl
        refine pure_ (i := 3) (N := some 51) (v := ?_) (a' := ?_) #[true, true, true, true, false, false, false, false, false, false, false, false, false, false, false] rfl rfl (by kernel_rfl) (fun _ _ _ h => h) (Or.inl ⟨by rfl, ?_⟩) ?_ ?_
        rotate_left
        · intro w'
          go_simp
          with_reducible rfl
        rotate_left
        · simp only [Act.put, List.setIfInBounds_toArray, List.set_cons_zero, List.set_cons_succ, i64_w, i32_w]
          rfl
        refine pure_ (i := 4) (N := some 52) (v := ?_) (a' := ?_) #[true, true, true, true, true, false, false, false, false, false, false, false, false, false, false] rfl rfl (by kernel_rfl) (fun _ _ _ h => h) (Or.inl ⟨by rfl, ?_⟩) ?_ ?_
        rotate_left
        · intro w'
          go_simp
          with_reducible rfl
        rotate_left
        · simp only [Act.put, List.setIfInBounds_toArray, List.set_cons_zero, List.set_cons_succ, i64_w, i32_w]
          rfl
        refine pure_ (i := 5) (N := some 53) (v := ?_) (a' := ?_) #[true, true, true, true, true, true, false, false, false, false, false, false, false, false, false] rfl rfl (by kernel_rfl) (fun _ _ _ h => h) (Or.inl ⟨by rfl, ?_⟩) ?_ ?_
        rotate_left
        · intro w'
          go_simp
          with_reducible rfl
        rotate_left
        · simp only [Act.put, List.setIfInBounds_toArray, List.set_cons_zero, List.set_cons_succ, i64_w, i32_w]
          rfl
        refine pure_ (i := 6) (N := some 54) (v := ?_) (a' := ?_) #[true, true, true, true, true, true, true, false, false, false, false, false, false, false, false] rfl rfl (by kernel_rfl) (fun _ _ _ h => h) (Or.inl ⟨by rfl, ?_⟩) ?_ ?_
        rotate_left
        · intro w'
          go_simp
          with_reducible rfl
        rotate_left
        · simp only [Act.put, List.setIfInBounds_toArray, List.set_cons_zero, List.set_cons_succ, i64_w, i32_w]
          rfl
        refine pure_ (i := 8) (N := some 56) (v := ?_) (a' := ?_) #[true, true, true, true, true, true, true, false, true, false, false, false, false, false, false] rfl rfl (by kernel_rfl) (fun _ _ _ h => h) (Or.inl ⟨by rfl, ?_⟩) ?_ ?_
        rotate_left
        · intro w'
          go_simp
          with_reducible rfl
        rotate_left
        · simp only [Act.put, List.setIfInBounds_toArray, List.set_cons_zero, List.set_cons_succ, i64_w, i32_w]
          rfl
        refine pure_ (i := 11) (N := some 59) (v := ?_) (a' := ?_) #[true, true, true, true, true, true, true, false, true, false, false, true, false, false, false] rfl rfl (by kernel_rfl) (fun _ _ _ h => h) (Or.inl ⟨by rfl, ?_⟩) ?_ ?_
        rotate_left
        · intro w'
          go_simp
          with_reducible rfl
        rotate_left
        · simp only [Act.put, List.setIfInBounds_toArray, List.set_cons_zero, List.set_cons_succ, i64_w, i32_w]
          rfl
        refine pure_ (i := 12) (N := some 60) (v := ?_) (a' := ?_) #[true, true, true, true, true, true, true, false, true, false, false, true, true, false, false] rfl rfl (by kernel_rfl) (fun _ _ _ h => h) (Or.inl ⟨by rfl, ?_⟩) ?_ ?_
        rotate_left
        · intro w'
          go_simp
          with_reducible rfl
        rotate_left
        · simp only [Act.put, List.setIfInBounds_toArray, List.set_cons_zero, List.set_cons_succ, i64_w, i32_w]
          rfl
        refine take_ (i := 7) (N := some 55) (v := ?_) (a' := ?_) #[true, true, true, true, true, true, true, true, true, false, false, true, true, false, false] rfl rfl (by kernel_rfl) (fun _ _ _ h => h) (Or.inl ⟨by rfl, ?_⟩) hHeld ?_ ?_
        rotate_left
        · rintro w' ⟨s0, s1⟩
          go_simp
          with_reducible rfl
        rotate_left
        · simp only [Act.put, List.setIfInBounds_toArray, List.set_cons_zero, List.set_cons_succ, i64_w, i32_w]
          rfl
        refine one_ (i := 9) (N := some 57) #[true, true, true, true, true, true, true, true, true, true, false, true, true, false, false] rfl rfl (by kernel_rfl) (by decide) (fun K hK => ?_)
        refine value_ (w1 := ?_) (v := ?_) (by rfl) rfl ?_ ?_
        rotate_left 2
        · go_simp
          constructor
          · rfl
          · rfl
        have hfa := hO3.out.blk.alloc (.cells #[.int .i64 (k : Int)] 3)
        have hc3 := (hfa.cell c0).trans hv2.out
        have hf3 := hfa.frozen c0
        refine hK.out _ _ ⟨hc3, hf3⟩ (fun hHeld => ?_)
        clear hK K
        refine norm_ (a' := ?_) ?_ ?_
        rotate_left
        · show Act.put _ (some 57) _ = _
          simp only [Act.put, List.setIfInBounds_toArray, List.set_cons_zero, List.set_cons_succ, i64_w, i32_w]
          rfl
        refine one_ (i := 10) (N := some 58) #[true, true, true, true, true, true, true, true, true, true, true, true, true, false, false] rfl rfl (by kernel_rfl) (by decide) (fun K hK => ?_)
        refine Kd.R_append_step (Kd.int .i64) (w0 := w) w.heap.size (by rfl) (.tmp 55) (.tmp 57) 42 3 (.int .i64 0) 8 (by rfl) Try.underlying42 PA.info3 rfl (by decide) (by omega) _ (idsTo xs k c0) (k : Int) [.int .i64 k] _ (fun _ => False) (by rfl) (by rfl) rfl (fun _ hk => hk.elim) ?hfresh hRm.out hb3.out hb3.out.size ?hlen ?_
        case hfresh => intro k' hk'; rw [if_neg (by omega)]
        case hlen => have := hL.out; omega
        intro v1 w3 ho hb hg hat
        obtain ⟨A4, c4, hv1⟩ := Kd.R_slice ho
        generalize (idsTo xs k c0 ++ [(k : Int)]).length = n4 at hv1
        subst hv1
        clear hfa hc3 hf3
        have hne : some w.heap.size ≠ (Value.slice A2 (idsTo xs k c0).length c2).ownBlock := Kd.R_ne hRr.out hO3.out.blk (by decide)
        have hfa := hO3.out.blk.grown hg hne
        have hc3 := (hfa.cell c0).trans hv2.out
        have hf3 := hfa.frozen c0
        have hR4 := Aside0.mk (strs_grown hR3.out hRr.out hg)
        have hO4 := Aside0.mk (hO3.out.appended hlt256 hRr.out ho hg)
        have hR5 := Aside0.mk (Kd.R_set hR4.out hfa (by simp [Kd.string, Kd.scalar]) c0 (.slice A4 n4 c4))
        have hb5 := Aside0.mk (hb.setCell (p := ⟨w.heap.size, c0, none⟩) (Nat.le_refl _) (.slice A4 n4 c4))
        clear hR4 ho hb hg hat hne hfa hO3 hR3 hRr hRm hb3
        refine hK.out _ _ ⟨hc3, hf3⟩ (fun hHeld => ?_)
        clear hK K
        refine norm_ (a' := ?_) ?_ ?_
        rotate_left
        · show Act.put _ (some 58) _ = _
          simp only [Act.put, List.setIfInBounds_toArray, List.set_cons_zero, List.set_cons_succ, i64_w, i32_w]
          rfl
        refine pure_ (i := 13) (N := some 61) (v := ?_) (a' := ?_) #[true, true, true, true, true, true, true, true, true, true, true, true, true, true, false] rfl rfl (by kernel_rfl) (fun _ _ _ h => h) (Or.inl ⟨by rfl, ?_⟩) ?_ ?_
        rotate_left
        · intro w'
          go_simp
          with_reducible rfl
        rotate_left
        · simp only [Act.put, List.setIfInBounds_toArray, List.set_cons_zero, List.set_cons_succ, i64_w, i32_w]
          rfl
        refine last_ (i := 14) (N := none) #[true, true, true, true, true, true, true, true, true, true, true, true, true, true, true] rfl rfl (by kernel_rfl) (by decide) (fun K hK => ?_)
        refine skip_ (w1 := ?_) (by rfl) rfl ?_ ?_
        rotate_left
        · go_simp
          rfl
        clear hHeld
        refine hK.out _ _ ?_
        clear hK K
        refine done_ (by kernel_rfl) ?_
        
        go_wp2
        refine ⟨⟨k + 1, by omega, by go_num, ⟨⟨_, _, BukO.cong hO4.out (fun c => ?_) (fun c => ?_)⟩⟩, hR5, hb5⟩, by simp [intOf]; omega⟩
        · rw [idsTo_succ, hgk.out.1, hgk.out.2]
          by_cases e : c = c0
          · subst e; rw [if_pos rfl, if_pos rfl]
          · rw [if_neg e, if_neg (by omega)]
        · rw [lensTo_succ, hgk.out.1, hgk.out.2]
          by_cases e : c = c0
          · subst e
            rw [if_pos rfl, mn_snoc, if_pos (by left; unfold lensTo; rw [hLc.out]; rfl)]
            rw [if_pos rfl]
          · rw [if_neg e, if_neg (by omega)]
      | cons y L =>
        rw [hLc] at hcv
        have d2 : ((((y :: L).length : Nat) : Int) == 0) = false := by simp; omega
        by_cases hm : (s.size : Int) < mn (lensTo xs k c0)
        · have d3 : decide ((s.size : Int) < mn (lensTo xs k c0)) = true := by simpa using hm
          go_wp2
          have hb2 := hb1.out.setCell (p := ⟨w.heap.size, 256 + c0, none⟩) (Nat.le_refl _) (.int .i64 s.size)
          have hO2 := hO.out.setLeast hlt256 s.size
          have hR2 := Kd.R_set hR1.out hO.out.blk (by simp [Kd.string, Kd.scalar]) (256 + c0) (.int .i64 s.size)
          generalize wr.setCell ⟨w.heap.size, 256 + c0, none⟩ (.int .i64 s.size) = W at hb2 hO2 hR2 ⊢
          generalize cs.setIfInBounds (256 + c0) (.int .i64 s.size) = cs2 at hO2
          clear hO hR1 hb1 hcv hcl hfc hfl hcell hR0 hgkc
          have hdr : Below W.heap.size W W.drew := (Below.refl _ _).drew
          have hb3 := hb2.trans (hdr.mono hb2.size)
          have hO3 := hO2.below hdr
          have hR3 := Kd.R_below hR2 hdr
          clear hb2 hO2 hR2 hdr
          obtain ⟨v2, hv2, hRr⟩ := hO3.row c0 hlt256
          obtain ⟨A2, c2, rfl⟩ := Kd.R_slice hRr
          have hcv2 := (hO3.blk.cell c0).trans hv2
          have hfc2 := hO3.blk.frozen c0
          have hRm := hO3.mine hRr
          replace hb3 := Aside0.mk hb3
          replace hO3 := Aside0.mk hO3
          replace hR3 := Aside0.mk hR3
          replace hRm := Aside0.mk hRm
          replace hRr := Aside0.mk hRr
          replace hv2 := Aside0.mk hv2
          replace hLc := Lib.hid hLc
          refine start_ (n := 15) (S := fun w' => w'.cell? ⟨w.heap.size, c0, none⟩ = some (.slice A2 (idsTo xs k c0).length c2) ∧ w'.frozen? ⟨w.heap.size, c0, none⟩ = false) (ds := [14]) #[false, false, false, false, false, false, false, false, false, false, false, false, false, false, false] (by kernel_rfl) rfl rfl ⟨hcv2, hfc2⟩ (fun hHeld => ?_)
          generalize W.drew = Wd at hb3 hO3 hR3 hRr hRm hHeld ⊢
          clear hcv2 hfc2
          refine pure_ (i := 0) (N := some 48) (v := ?_) (a' := ?_) #[true, false, false, false, false, false, false, false, false, false, false, false, false, false, false] rfl rfl (by kernel_rfl) (fun _ _ _ h => h) (Or.inl ⟨by rfl, ?_⟩) ?_ ?_
          rotate_left
          · intro w'
            go_simp
            with_reducible rfl
          rotate_left
          · simp only [Act.put, List.setIfInBounds_toArray, List.set_cons_zero, List.set_cons_succ, i64_w, i32_w]
            rfl
          refine pure_ (i := 1) (N := some 49) (v := ?_) (a' := ?_) #[true, true, false, false, false, false, false, false, false, false, false, false, false, false, false] rfl rfl (by kernel_rfl) (fun _ _ _ h => h) (Or.inl ⟨by rfl, ?_⟩) ?_ ?_
          rotate_left
          · intro w'
            go_simp
            with_reducible rfl
          rotate_left
          · simp only [Act.put, List.setIfInBounds_toArray, List.set_cons_zero, List.set_cons_succ, i64_w, i32_w]
            rfl
          refine pure_ (i := 2) (N := some 50) (v := ?_) (a' := ?_) #[true, true, true, false, false, false, false, false, false, false, false, false, false, false, false] rfl rfl (by kernel_rfl) (fun _ _ _ h => h) (Or.inl ⟨by rfl, ?_⟩) ?_ ?_
          rotate_left
          · intro w'
            go_simp
            with_reducible rfl
          rotate_left
          · simp only [Act.put, List.setIfInBounds_toArray, List.set_cons_zero, List.set_cons_succ, i64_w, i32_w]
            rfl
          refine pure_ (i := 3) (N := some 51) (v := ?_) (a' := ?_) #[true, true, true, true, false, false, false, false, false, false, false, false, false, false, false] rfl rfl (by kernel_rfl) (fun _ _ _ h => h) (Or.inl ⟨by rfl, ?_⟩) ?_ ?_
          rotate_left
          · intro w'
            go_simp
            with_reducible rfl
          rotate_left
          · simp only [Act.put, List.setIfInBounds_toArray, List.set_cons_zero, List.set_cons_succ, i64_w, i32_w]
            rfl
          refine pure_ (i := 4) (N := some 52) (v := ?_) (a' := ?_) #[true, true, true, true, true, false, false, false, false, false, false, false, false, false, false] rfl rfl (by kernel_rfl) (fun _ _ _ h => h) (Or.inl ⟨by rfl, ?_⟩) ?_ ?_
          rotate_left
          · intro w'
            go_simp
            with_reducible rfl
          rotate_left
          · simp only [Act.put, List.setIfInBounds_toArray, List.set_cons_zero, List.set_cons_succ, i64_w, i32_w]
            rfl
          refine pure_ (i := 5) (N := some 53) (v := ?_) (a' := ?_) #[true, true, true, true, true, true, false, false, false, false, false, false, false, false, false] rfl rfl (by kernel_rfl) (fun _ _ _ h => h) (Or.inl ⟨by rfl, ?_⟩) ?_ ?_
          rotate_left
          · intro w'
            go_simp
            with_reducible rfl
          rotate_left
          · simp only [Act.put, List.setIfInBounds_toArray, List.set_cons_zero, List.set_cons_succ, i64_w, i32_w]
            rfl
          refine pure_ (i := 6) (N := some 54) (v := ?_) (a' := ?_) #[true, true, true, true, true, true, true, false, false, false, false, false, false, false, false] rfl rfl (by kernel_rfl) (fun _ _ _ h => h) (Or.inl ⟨by rfl, ?_⟩) ?_ ?_
          rotate_left
          · intro w'
            go_simp
            with_reducible rfl
          rotate_left
          · simp only [Act.put, List.setIfInBounds_toArray, List.set_cons_zero, List.set_cons_succ, i64_w, i32_w]
            rfl
          refine pure_ (i := 8) (N := some 56) (v := ?_) (a' := ?_) #[true, true, true, true, true, true, true, false, true, false, false, false, false, false, false] rfl rfl (by kernel_rfl) (fun _ _ _ h => h) (Or.inl ⟨by rfl, ?_⟩) ?_ ?_
          rotate_left
          · intro w'
            go_simp
            with_reducible rfl
          rotate_left
          · simp only [Act.put, List.setIfInBounds_toArray, List.set_cons_zero, List.set_cons_succ, i64_w, i32_w]
            rfl
          refine pure_ (i := 11) (N := some 59) (v := ?_) (a' := ?_) #[true, true, true, true, true, true, true, false, true, false, false, true, false, false, false] rfl rfl (by kernel_rfl) (fun _ _ _ h => h) (Or.inl ⟨by rfl, ?_⟩) ?_ ?_
          rotate_left
          · intro w'
            go_simp
            with_reducible rfl
          rotate_left
          · simp only [Act.put, List.setIfInBounds_toArray, List.set_cons_zero, List.set_cons_succ, i64_w, i32_w]
            rfl
          refine pure_ (i := 12) (N := some 60) (v := ?_) (a' := ?_) #[true, true, true, true, true, true, true, false, true, false, false, true, true, false, false] rfl rfl (by kernel_rfl) (fun _ _ _ h => h) (Or.inl ⟨by rfl, ?_⟩) ?_ ?_
          rotate_left
          · intro w'
            go_simp
            with_reducible rfl
          rotate_left
          · simp only [Act.put, List.setIfInBounds_toArray, List.set_cons_zero, List.set_cons_succ, i64_w, i32_w]
            rfl
          refine take_ (i := 7) (N := some 55) (v := ?_) (a' := ?_) #[true, true, true, true, true, true, true, true, true, false, false, true, true, false, false] rfl rfl (by kernel_rfl) (fun _ _ _ h => h) (Or.inl ⟨by rfl, ?_⟩) hHeld ?_ ?_
          rotate_left
          · rintro w' ⟨s0, s1⟩
            go_simp
            with_reducible rfl
          rotate_left
          · simp only [Act.put, List.setIfInBounds_toArray, List.set_cons_zero, List.set_cons_succ, i64_w, i32_w]
            rfl
          refine one_ (i := 9) (N := some 57) #[true, true, true, true, true, true, true, true, true, true, false, true, true, false, false] rfl rfl (by kernel_rfl) (by decide) (fun K hK => ?_)
          refine value_ (w1 := ?_) (v := ?_) (by rfl) rfl ?_ ?_
          rotate_left 2
          · go_simp
            constructor
            · rfl
            · rfl
          have hfa := hO3.out.blk.alloc (.cells #[.int .i64 (k : Int)] 3)
          have hc3 := (hfa.cell c0).trans hv2.out
          have hf3 := hfa.frozen c0
          refine hK.out _ _ ⟨hc3, hf3⟩ (fun hHeld => ?_)
          clear hK K
          refine norm_ (a' := ?_) ?_ ?_
          rotate_left
          · show Act.put _ (some 57) _ = _
            simp only [Act.put, List.setIfInBounds_toArray, List.set_cons_zero, List.set_cons_succ, i64_w, i32_w]
            rfl
          refine one_ (i := 10) (N := some 58) #[true, true, true, true, true, true, true, true, true, true, true, true, true, false, false] rfl rfl (by kernel_rfl) (by decide) (fun K hK => ?_)
          refine Kd.R_append_step (Kd.int .i64) (w0 := w) w.heap.size (by rfl) (.tmp 55) (.tmp 57) 42 3 (.int .i64 0) 8 (by rfl) Try.underlying42 PA.info3 rfl (by decide) (by omega) _ (idsTo xs k c0) (k : Int) [.int .i64 k] _ (fun _ => False) (by rfl) (by rfl) rfl (fun _ hk => hk.elim) ?hfresh hRm.out hb3.out hb3.out.size ?hlen ?_
          case hfresh => intro k' hk'; rw [if_neg (by omega)]
          case hlen => have := hL.out; omega
          intro v1 w3 ho hb hg hat
          obtain ⟨A4, c4, hv1⟩ := Kd.R_slice ho
          generalize (idsTo xs k c0 ++ [(k : Int)]).length = n4 at hv1
          subst hv1
          clear hfa hc3 hf3
          have hne : some w.heap.size ≠ (Value.slice A2 (idsTo xs k c0).length c2).ownBlock := Kd.R_ne hRr.out hO3.out.blk (by decide)
          have hfa := hO3.out.blk.grown hg hne
          have hc3 := (hfa.cell c0).trans hv2.out
          have hf3 := hfa.frozen c0
          have hR4 := Aside0.mk (strs_grown hR3.out hRr.out hg)
          have hO4 := Aside0.mk (hO3.out.appended hlt256 hRr.out ho hg)
          have hR5 := Aside0.mk (Kd.R_set hR4.out hfa (by simp [Kd.string, Kd.scalar]) c0 (.slice A4 n4 c4))
          have hb5 := Aside0.mk (hb.setCell (p := ⟨w.heap.size, c0, none⟩) (Nat.le_refl _) (.slice A4 n4 c4))
          clear hR4 ho hb hg hat hne hfa hO3 hR3 hRr hRm hb3
          refine hK.out _ _ ⟨hc3, hf3⟩ (fun hHeld => ?_)
          clear hK K
          refine norm_ (a' := ?_) ?_ ?_
          rotate_left
          · show Act.put _ (some 58) _ = _
            simp only [Act.put, List.setIfInBounds_toArray, List.set_cons_zero, List.set_cons_succ, i64_w, i32_w]
            rfl
          refine pure_ (i := 13) (N := some 61) (v := ?_) (a' := ?_) #[true, true, true, true, true, true, true, true, true, true, true, true, true, true, false] rfl rfl (by kernel_rfl) (fun _ _ _ h => h) (Or.inl ⟨by rfl, ?_⟩) ?_ ?_
          rotate_left
          · intro w'
            go_simp
            with_reducible rfl
          rotate_left
          · simp only [Act.put, List.setIfInBounds_toArray, List.set_cons_zero, List.set_cons_succ, i64_w, i32_w]
            rfl
          refine last_ (i := 14) (N := none) #[true, true, true, true, true, true, true, true, true, true, true, true, true, true, true] rfl rfl (by kernel_rfl) (by decide) (fun K hK => ?_)
          refine skip_ (w1 := ?_) (by rfl) rfl ?_ ?_
          rotate_left
          · go_simp
            rfl
          clear hHeld
          refine hK.out _ _ ?_
          clear hK K
          refine done_ (by kernel_rfl) ?_
          
          go_wp2
          refine ⟨⟨k + 1, by omega, by go_num, ⟨⟨_, _, BukO.cong hO4.out (fun c => ?_) (fun c => ?_)⟩⟩, hR5, hb5⟩, by simp [intOf]; omega⟩
          · rw [idsTo_succ, hgk.out.1, hgk.out.2]
            by_cases e : c = c0
            · subst e; rw [if_pos rfl, if_pos rfl]
            · rw [if_neg e, if_neg (by omega)]
          · rw [lensTo_succ, hgk.out.1, hgk.out.2]
            by_cases e : c = c0
            · subst e
              rw [if_pos rfl, mn_snoc, if_pos (by right; exact hm)]
              rw [if_pos rfl]
            · rw [if_neg e, if_neg (by omega)]
        · have d3 : decide ((s.size : Int) < mn (lensTo xs k c0)) = false := by simpa using hm
          go_wp2
          have hb2 := hb1.out
          have hO2 := hO.out
          have hR2 := hR1.out
          clear hO hR1 hb1 hcv hcl hfc hfl hcell hR0 hgkc
          generalize wr = W at hb2 hO2 hR2 ⊢
          obtain ⟨cs2, hcs2⟩ : ∃ cs2, cs2 = cs := ⟨_, rfl⟩
          rw [← hcs2] at hO2
          have hdr : Below W.heap.size W W.drew := (Below.refl _ _).drew
          have hb3 := hb2.trans (hdr.mono hb2.size)
          have hO3 := hO2.below hdr
          have hR3 := Kd.R_below hR2 hdr
          clear hb2 hO2 hR2 hdr
          obtain ⟨v2, hv2, hRr⟩ := hO3.row c0 hlt256
          obtain ⟨A2, c2, rfl⟩ := Kd.R_slice hRr
          have hcv2 := (hO3.blk.cell c0).trans hv2
          have hfc2 := hO3.blk.frozen c0
          have hRm := hO3.mine hRr
          replace hb3 := Aside0.mk hb3
          replace hO3 := Aside0.mk hO3
          replace hR3 := Aside0.mk hR3
          replace hRm := Aside0.mk hRm
          replace hRr := Aside0.mk hRr
          replace hv2 := Aside0.mk hv2
          replace hLc := Lib.hid hLc
          refine start_ (n := 15) (S := fun w' => w'.cell? ⟨w.heap.size, c0, none⟩ = some (.slice A2 (idsTo xs k c0).length c2) ∧ w'.frozen? ⟨w.heap.size, c0, none⟩ = false) (ds := [14]) #[false, false, false, false, false, false, false, false, false, false, false, false, false, false, false] (by kernel_rfl) rfl rfl ⟨hcv2, hfc2⟩ (fun hHeld => ?_)
          generalize W.drew = Wd at hb3 hO3 hR3 hRr hRm hHeld ⊢
          clear hcv2 hfc2
          refine pure_ (i := 0) (N := some 48) (v := ?_) (a' := ?_) #[true, false, false, false, false, false, false, false, false, false, false, false, false, false, false] rfl rfl (by kernel_rfl) (fun _ _ _ h => h) (Or.inl ⟨by rfl, ?_⟩) ?_ ?_
          rotate_left
          · intro w'
            go_simp
            with_reducible rfl
          rotate_left
          · simp only [Act.put, List.setIfInBounds_toArray, List.set_cons_zero, List.set_cons_succ, i64_w, i32_w]
            rfl
          refine pure_ (i := 1) (N := some 49) (v := ?_) (a' := ?_) #[true, true, false, false, false, false, false, false, false, false, false, false, false, false, false] rfl rfl (by kernel_rfl) (fun _ _ _ h => h) (Or.inl ⟨by rfl, ?_⟩) ?_ ?_
          rotate_left
          · intro w'
            go_simp
            with_reducible rfl
          rotate_left
          · simp only [Act.put, List.setIfInBounds_toArray, List.set_cons_zero, List.set_cons_succ, i64_w, i32_w]
            rfl
          refine pure_ (i := 2) (N := some 50) (v := ?_) (a' := ?_) #[true, true, true, false, false, false, false, false, false, false, false, false, false, false, false] rfl rfl (by kernel_rfl) (fun _ _ _ h => h) (Or.inl ⟨by rfl, ?_⟩) ?_ ?_
          rotate_left
          · intro w'
            go_simp
            with_reducible rfl
          rotate_left
          · simp only [Act.put, List.setIfInBounds_toArray, List.set_cons_zero, List.set_cons_succ, i64_w, i32_w]
            rfl
          refine pure_ (i := 3) (N := some 51) (v := ?_) (a' := ?_) #[true, true, true, true, false, false, false, false, false, false, false, false, false, false, false] rfl rfl (by kernel_rfl) (fun _ _ _ h => h) (Or.inl ⟨by rfl, ?_⟩) ?_ ?_
          rotate_left
          · intro w'
            go_simp
            with_reducible rfl
          rotate_left
          · simp only [Act.put, List.setIfInBounds_toArray, List.set_cons_zero, List.set_cons_succ, i64_w, i32_w]
            rfl
          refine pure_ (i := 4) (N := some 52) (v := ?_) (a' := ?_) #[true, true, true, true, true, false, false, false, false, false, false, false, false, false, false] rfl rfl (by kernel_rfl) (fun _ _ _ h => h) (Or.inl ⟨by rfl, ?_⟩) ?_ ?_
          rotate_left
          · intro w'
            go_simp
            with_reducible rfl
          rotate_left
          · simp only [Act.put, List.setIfInBounds_toArray, List.set_cons_zero, List.set_cons_succ, i64_w, i32_w]
            rfl
          refine pure_ (i := 5) (N := some 53) (v := ?_) (a' := ?_) #[true, true, true, true, true, true, false, false, false, false, false, false, false, false, false] rfl rfl (by kernel_rfl) (fun _ _ _ h => h) (Or.inl ⟨by rfl, ?_⟩) ?_ ?_
          rotate_left
          · intro w'
            go_simp
            with_reducible rfl
          rotate_left
          · simp only [Act.put, List.setIfInBounds_toArray, List.set_cons_zero, List.set_cons_succ, i64_w, i32_w]
            rfl
          refine pure_ (i := 6) (N := some 54) (v := ?_) (a' := ?_) #[true, true, true, true, true, true, true, false, false, false, false, false, false, false, false] rfl rfl (by kernel_rfl) (fun _ _ _ h => h) (Or.inl ⟨by rfl, ?_⟩) ?_ ?_
          rotate_left
          · intro w'
            go_simp
            with_reducible rfl
          rotate_left
          · simp only [Act.put, List.setIfInBounds_toArray, List.set_cons_zero, List.set_cons_succ, i64_w, i32_w]
            rfl
          refine pure_ (i := 8) (N := some 56) (v := ?_) (a' := ?_) #[true, true, true, true, true, true, true, false, true, false, false, false, false, false, false] rfl rfl (by kernel_rfl) (fun _ _ _ h => h) (Or.inl ⟨by rfl, ?_⟩) ?_ ?_
          rotate_left
          · intro w'
            go_simp
            with_reducible rfl
          rotate_left
          · simp only [Act.put, List.setIfInBounds_toArray, List.set_cons_zero, List.set_cons_succ, i64_w, i32_w]
            rfl
          refine pure_ (i := 11) (N := some 59) (v := ?_) (a' := ?_) #[true, true, true, true, true, true, true, false, true, false, false, true, false, false, false] rfl rfl (by kernel_rfl) (fun _ _ _ h => h) (Or.inl ⟨by rfl, ?_⟩) ?_ ?_
          rotate_left
          · intro w'
            go_simp
            with_reducible rfl
          rotate_left
          · simp only [Act.put, List.setIfInBounds_toArray, List.set_cons_zero, List.set_cons_succ, i64_w, i32_w]
            rfl
          refine pure_ (i := 12) (N := some 60) (v := ?_) (a' := ?_) #[true, true, true, true, true, true, true, false, true, false, false, true, true, false, false] rfl rfl (by kernel_rfl) (fun _ _ _ h => h) (Or.inl ⟨by rfl, ?_⟩) ?_ ?_
          rotate_left
          · intro w'
            go_simp
            with_reducible rfl
          rotate_left
          · simp only [Act.put, List.setIfInBounds_toArray, List.set_cons_zero, List.set_cons_succ, i64_w, i32_w]
            rfl
          refine take_ (i := 7) (N := some 55) (v := ?_) (a' := ?_) #[true, true, true, true, true, true, true, true, true, false, false, true, true, false, false] rfl rfl (by kernel_rfl) (fun _ _ _ h => h) (Or.inl ⟨by rfl, ?_⟩) hHeld ?_ ?_
          rotate_left
          · rintro w' ⟨s0, s1⟩
            go_simp
            with_reducible rfl
          rotate_left
          · simp only [Act.put, List.setIfInBounds_toArray, List.set_cons_zero, List.set_cons_succ, i64_w, i32_w]
            rfl
          refine one_ (i := 9) (N := some 57) #[true, true, true, true, true, true, true, true, true, true, false, true, true, false, false] rfl rfl (by kernel_rfl) (by decide) (fun K hK => ?_)
          refine value_ (w1 := ?_) (v := ?_) (by rfl) rfl ?_ ?_
          rotate_left 2
          · go_simp
            constructor
            · rfl
            · rfl
          have hfa := hO3.out.blk.alloc (.cells #[.int .i64 (k : Int)] 3)
          have hc3 := (hfa.cell c0).trans hv2.out
          have hf3 := hfa.frozen c0
          refine hK.out _ _ ⟨hc3, hf3⟩ (fun hHeld => ?_)
          clear hK K
          refine norm_ (a' := ?_) ?_ ?_
          rotate_left
          · show Act.put _ (some 57) _ = _
            simp only [Act.put, List.setIfInBounds_toArray, List.set_cons_zero, List.set_cons_succ, i64_w, i32_w]
            rfl
          refine one_ (i := 10) (N := some 58) #[true, true, true, true, true, true, true, true, true, true, true, true, true, false, false] rfl rfl (by kernel_rfl) (by decide) (fun K hK => ?_)
          refine Kd.R_append_step (Kd.int .i64) (w0 := w) w.heap.size (by rfl) (.tmp 55) (.tmp 57) 42 3 (.int .i64 0) 8 (by rfl) Try.underlying42 PA.info3 rfl (by decide) (by omega) _ (idsTo xs k c0) (k : Int) [.int .i64 k] _ (fun _ => False) (by rfl) (by rfl) rfl (fun _ hk => hk.elim) ?hfresh hRm.out hb3.out hb3.out.size ?hlen ?_
          case hfresh => intro k' hk'; rw [if_neg (by omega)]
          case hlen => have := hL.out; omega
          intro v1 w3 ho hb hg hat
          obtain ⟨A4, c4, hv1⟩ := Kd.R_slice ho
          generalize (idsTo xs k c0 ++ [(k : Int)]).length = n4 at hv1
          subst hv1
          clear hfa hc3 hf3
          have hne : some w.heap.size ≠ (Value.slice A2 (idsTo xs k c0).length c2).ownBlock := Kd.R_ne hRr.out hO3.out.blk (by decide)
          have hfa := hO3.out.blk.grown hg hne
          have hc3 := (hfa.cell c0).trans hv2.out
          have hf3 := hfa.frozen c0
          have hR4 := Aside0.mk (strs_grown hR3.out hRr.out hg)
          have hO4 := Aside0.mk (hO3.out.appended hlt256 hRr.out ho hg)
          have hR5 := Aside0.mk (Kd.R_set hR4.out hfa (by simp [Kd.string, Kd.scalar]) c0 (.slice A4 n4 c4))
          have hb5 := Aside0.mk (hb.setCell (p := ⟨w.heap.size, c0, none⟩) (Nat.le_refl _) (.slice A4 n4 c4))
          clear hR4 ho hb hg hat hne hfa hO3 hR3 hRr hRm hb3
          refine hK.out _ _ ⟨hc3, hf3⟩ (fun hHeld => ?_)
          clear hK K
          refine norm_ (a' := ?_) ?_ ?_
          rotate_left
          · show Act.put _ (some 58) _ = _
            simp only [Act.put, List.setIfInBounds_toArray, List.set_cons_zero, List.set_cons_succ, i64_w, i32_w]
            rfl
          refine pure_ (i := 13) (N := some 61) (v := ?_) (a' := ?_) #[true, true, true, true, true, true, true, true, true, true, true, true, true, true, false] rfl rfl (by kernel_rfl) (fun _ _ _ h => h) (Or.inl ⟨by rfl, ?_⟩) ?_ ?_
          rotate_left
          · intro w'
            go_simp
            with_reducible rfl
          rotate_left
          · simp only [Act.put, List.setIfInBounds_toArray, List.set_cons_zero, List.set_cons_succ, i64_w, i32_w]
            rfl
          refine last_ (i := 14) (N := none) #[true, true, true, true, true, true, true, true, true, true, true, true, true, true, true] rfl rfl (by kernel_rfl) (by decide) (fun K hK => ?_)
          refine skip_ (w1 := ?_) (by rfl) rfl ?_ ?_
          rotate_left
          · go_simp
            rfl
          clear hHeld
          refine hK.out _ _ ?_
          clear hK K
          refine done_ (by kernel_rfl) ?_
          
          go_wp2
          refine ⟨⟨k + 1, by omega, by go_num, ⟨⟨_, _, BukO.cong hO4.out (fun c => ?_) (fun c => ?_)⟩⟩, hR5, hb5⟩, by simp [intOf]; omega⟩
          · rw [idsTo_succ, hgk.out.1, hgk.out.2]
            by_cases e : c = c0
            · subst e; rw [if_pos rfl, if_pos rfl]
            · rw [if_neg e, if_neg (by omega)]
          · rw [lensTo_succ, hgk.out.1, hgk.out.2]
            by_cases e : c = c0
            · subst e
              rw [if_pos rfl, mn_snoc, if_neg (by unfold lensTo at hm ⊢; rw [hLc.out] at hm ⊢; simp at hm ⊢; omega)]
            · rw [if_neg (by omega)]
    · have d1 : decide ((k : Int) < xs.length) = false := by simp; omega
      obtain rfl : k = xs.length := by omega
      go_wp2
      go_ret
      exact ⟨_, rfl, hin.out, hb1.out⟩
end Go.Proofs.Ythgjckibnojnpaa
