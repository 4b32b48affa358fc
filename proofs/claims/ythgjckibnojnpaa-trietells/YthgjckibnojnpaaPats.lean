/- The walks of package pats: the set of any texts, or why there is none; what a set tells. -/
import Derived.Test.YthgjckibnojnpaaSort
import Derived.Test.YthgjckibnojnpaaTwice
import Derived.Test.YthgjckibnojnpaaSet
set_option linter.unusedVariables false
set_option linter.unusedSimpArgs false
namespace Go.Proofs.Ythgjckibnojnpaa
open Go.RowKit Go.Proofs.YthgjckibnojnpaaW.PrintWords Pl

set_option maxHeartbeats 400000 in
theorem check_any (s : ByteArray) (w : World) (hs : s.size ≤ 140737488351232) : Calls Try.prog 77 #[.string s] w fun e w' => e = .returned (.int .i64 (bad1 s)) ∧ w = w' := by
  by_cases h0 : s.size = 0
  · have he := isEmpty_true h0
    have he' := (empty_iff s).2 h0
    have H : bad1 s = 7 := by unfold bad1; rw [if_pos h0]
    replace H := Lib.hid H
    clear h0
    go_enter Try.func77, Try.ntmps77
    go_wp2
    go_ret
    exact ⟨ret_int H.out.symm, rfl⟩
  · have he := isEmpty_false h0
    have he' := mt (empty_iff s).1 h0
    by_cases h1 : 65535 < s.size
    · have H : bad1 s = 5 := by unfold bad1; rw [if_neg h0, if_pos h1]
      replace H := Lib.hid H
      clear h0
      go_enter Try.func77, Try.ntmps77
      go_wp2
      go_ret
      exact ⟨ret_int H.out.symm, rfl⟩
    · have H : bad1 s = 0 := by unfold bad1; rw [if_neg h0, if_neg h1]
      replace H := Lib.hid H
      clear h0
      go_enter Try.func77, Try.ntmps77
      go_wp2
      go_ret
      exact ⟨ret_int H.out.symm, rfl⟩

/-- What the second loop has gathered of the first k texts. -/
structure Sums (xs : List ByteArray) (k : Nat) (L M T : Int) : Prop where
  least : L = (xs.take k).foldl (fun n t => min n (t.size : Int)) ((xs.getD 0 ByteArray.empty).size : Int)
  most : M = Pl.most (xs.take k)
  total : T = Pl.total (xs.take k)
theorem Sums.start {xs : List ByteArray} (hp : 0 < xs.length) : Sums xs 0 (xs[0].size : Int) 0 0 := ⟨by simp [List.getD_eq_getElem?_getD, List.getElem?_eq_getElem hp], by simp [Pl.most], by simp [Pl.total]⟩
theorem Sums.step {xs : List ByteArray} {k : Nat} {L M T : Int} (h : Sums xs k L M T) (hk : k < xs.length) : Sums xs (k + 1) (min L (xs[k].size : Int)) (max M (xs[k].size : Int)) (T + (xs[k].size : Int)) := by
  refine ⟨?_, ?_, ?_⟩
  · rw [List.take_succ_eq_append_getElem hk, List.foldl_append, ← h.least]; rfl
  · rw [List.take_succ_eq_append_getElem hk, most_snoc, ← h.most]
  · rw [List.take_succ_eq_append_getElem hk, total_snoc, ← h.total]
theorem Sums.bounds {xs : List ByteArray} {k : Nat} {L M T : Int} (h : Sums xs k L M T) (hk : k ≤ xs.length) (hn : xs.length ≤ 65535) (hall : ∀ s ∈ xs, 0 < s.size ∧ s.size ≤ 65535) : 0 ≤ T ∧ T ≤ 4294836225 := by
  have := total_le (xs.take k) 65535 (fun s hs => (hall s (List.mem_of_mem_take hs)).2)
  rw [← h.total, List.length_take] at this
  omega
theorem Sums.done {xs : List ByteArray} {L M T : Int} (h : Sums xs xs.length L M T) (hp : 0 < xs.length) : L = Pl.least xs ∧ M = Pl.most xs ∧ T = Pl.total xs := by
  obtain ⟨h1, h2, h3⟩ := h
  rw [List.take_length] at h1 h2 h3
  refine ⟨?_, h2, h3⟩
  cases xs with
  | nil => simp at hp
  | cons s l =>
    rw [h1]
    simp [Pl.least]

/-- What pats.New leaves. -/
def NewPost (xs : List ByteArray) (w : World) (e : Ending) (w' : World) : Prop :=
  ∃ v, e = .returned (.tuple #[v, .int .i64 (newE xs)]) ∧ SetV w' v (if newE xs = 0 then srt xs else []) ∧ Below w.heap.size w w'

set_option maxHeartbeats 1000000 in
theorem new_any (A : Option Addr) (c : Nat) (xs : List ByteArray) (w : World) (hr : Kd.C Kd.string w A xs.length xs) (hf : Fit xs) :
    Calls Try.prog 17 #[.slice A xs.length c] w (NewPost xs w) := by
  by_cases h0 : xs = []
  · subst h0
    have H : newE ([] : List ByteArray) = 14 := by unfold newE; rw [if_pos rfl]
    replace H := Lib.hid H
    go_enter Try.func17, Try.ntmps17
    go_wp2
    go_ret2
    exact ⟨_, by rw [H.out]; rfl, by rw [if_neg (by rw [H.out]; omega)]; exact SetV.none_ _, Below.refl _ _⟩
  have hp : 0 < xs.length := List.length_pos_iff.2 h0
  by_cases h1 : 65535 < xs.length
  · have H : newE xs = 6 := by unfold newE; rw [if_neg h0, if_pos h1]
    replace H := Lib.hid H
    clear h0 hr hf
    go_enter Try.func17, Try.ntmps17
    go_wp2
    go_ret2
    exact ⟨_, by rw [H.out]; rfl, by rw [if_neg (by rw [H.out]; omega)]; exact SetV.none_ _, Below.refl _ _⟩
  obtain ⟨b, o, rfl, hb, hc⟩ := C_form hr hp
  have HC := Lib.hid hc
  have HR := Aside0.mk hr
  clear hr hc
  have HN := Lib.hid h0
  clear h0
  have b1 : ((xs.length : Int) == 0) = false := by rw [beq_eq_false_iff_ne]; omega
  have b2 : decide (65535 < (xs.length : Int)) = false := by simp; omega
  go_enter Try.func17, Try.ntmps17
  go_wp2
  go_loop [20] (fun i => ∃ k : Nat, k ≤ xs.length ∧ i = .int .i64 k ∧ Hid (∀ s ∈ xs.take k, bad1 s = 0)) (fun i => xs.length - (intOf i).toNat)
  case atStart => exact ⟨0, by omega, rfl, fun s hs => by simp at hs⟩
  case round =>
    obtain ⟨k, hk, rfl, hs⟩ := hrel
    by_cases hlt : k < xs.length
    · have hcell : w.cell? ⟨b, o + k, none⟩ = some (.string xs[k]) := by
        have := HC.out k hlt
        rwa [List.getD_eq_getElem?_getD, List.getElem?_eq_getElem hlt] at this
      have hsz : xs[k].size ≤ 140737488351232 := hf _ (List.getElem_mem hlt)
      have hch := check_any xs[k] w hsz
      by_cases hb0 : bad1 xs[k] = 0
      · rw [hb0] at hch
        have H := Lib.hid hb0
        clear hb0
        go_wp2_with (go_at_call 77; refine hch.mono ?_; rintro e w' ⟨rfl, rfl⟩)
        refine ⟨⟨k + 1, by omega, by go_num, ?_⟩, by simp [intOf]; omega⟩
        intro s hs'
        rw [List.take_succ_eq_append_getElem hlt, List.mem_append] at hs'
        rcases hs' with hs' | hs'
        · exact hs.out s hs'
        · rw [List.mem_singleton.1 hs']; exact H.out
      · have H : newE xs = bad1 xs[k] := by
          have hb := bad_at hlt hs.out hb0
          unfold newE
          rw [if_neg HN.out, if_neg h1, if_pos (by rw [hb]; exact hb0), hb]
        have H2 : (if newE xs = 0 then srt xs else []) = [] := by rw [H, if_neg hb0]
        have e1 : (bad1 xs[k] != 0) = true := by rw [bne_iff_ne]; exact hb0
        replace H := Lib.hid H
        replace H2 := Lib.hid H2
        clear hb0
        go_wp2_with (go_at_call 77; refine hch.mono ?_; rintro e w' ⟨rfl, rfl⟩)
        go_ret2
        exact ⟨_, by rw [H.out]; rfl, by rw [H2.out]; exact SetV.none_ _, Below.refl _ _⟩
    · have hke : k = xs.length := by omega
      have hall : ∀ s ∈ xs, 0 < s.size ∧ s.size ≤ 65535 := by
        have := hs.out
        rw [hke, List.take_length] at this
        exact fun s hs => bad1_zero.1 (this s hs)
      have hbad : bad xs = 0 := bad_zero.2 hall
      have hcell0 : w.cell? ⟨b, o + 0, none⟩ = some (.string xs[0]) := by
        have := HC.out 0 hp
        rwa [List.getD_eq_getElem?_getD, List.getElem?_eq_getElem hp] at this
      have hcell1 : w.cell? ⟨b, o, none⟩ = some (.string xs[0]) := hcell0
      have hs0 := (hall _ (List.getElem_mem hp)).2
      have HA := Lib.hid hall
      have HB := Lib.hid hbad
      clear hs hall hbad hke
      go_wp2
      go_loopw [38] (fun i wr => ∃ (k : Nat) (L M T : Int), k ≤ xs.length ∧ i = .int .i64 k ∧ Sums xs k L M T ∧ wr = w.alloc (.cells #[.slice none 0 0, .int .i64 L, .int .i64 M, .int .i64 T] 100)) (fun i _ => xs.length - (intOf i).toNat)
      case atStart => exact ⟨0, xs[0].size, 0, 0, by omega, rfl, Sums.start hp, rfl⟩
      case round =>
        obtain ⟨k, L, M, T, hk, rfl, hsum, rfl⟩ := hrel
        by_cases hlt : k < xs.length
        · have hcell : (w.alloc (.cells #[.slice none 0 0, .int .i64 L, .int .i64 M, .int .i64 T] 100)).cell? ⟨b, o + k, none⟩ = some (.string xs[k]) := by
            have := HC.out k hlt
            rw [List.getD_eq_getElem?_getD, List.getElem?_eq_getElem hlt] at this
            exact (World.cell?_alloc_past _ _ _ hb).trans this
          have hsz := (HA.out _ (List.getElem_mem hlt)).2
          obtain ⟨hT0, hT1⟩ := hsum.bounds hk (by omega) HA.out
          rcases Int.lt_or_le (xs[k].size : Int) L with hL | hL <;> rcases Int.lt_or_le M (xs[k].size : Int) with hM | hM
          all_goals
            have hst := Aside0.mk (hsum.step hlt)
            replace hsum := Aside0.mk hsum
            go_wp2
            refine ⟨⟨k + 1, _, _, _, by omega, by go_num, hst.out, ?_⟩, by simp [intOf]; omega⟩
            first
              | rw [Int.min_eq_right (by omega), Int.max_eq_right (by omega)]
              | rw [Int.min_eq_right (by omega), Int.max_eq_left (by omega)]
              | rw [Int.min_eq_left (by omega), Int.max_eq_right (by omega)]
              | rw [Int.min_eq_left (by omega), Int.max_eq_left (by omega)]
        · have hke : k = xs.length := by omega
          subst hke
          obtain ⟨rfl, rfl, rfl⟩ := hsum.done hp
          clear hsum
          have hb0 : bad xs = 0 := HB.out
          by_cases hT : 16777216 < Pl.total xs
          · have H : newE xs = 13 := by unfold newE; rw [if_neg HN.out, if_neg h1, if_neg (by rw [hb0]; simp), if_pos hT]
            replace H := Lib.hid H
            clear hb0
            go_wp2
            go_ret2
            exact ⟨_, by rw [H.out]; rfl, by rw [if_neg (by rw [H.out]; omega)]; exact SetV.none_ _, (Below.refl _ _).alloc (Nat.le_refl _) _⟩
          · have hR1 := Kd.C_below HR.out ((Below.refl w.heap.size w).alloc (Nat.le_refl _) (.cells #[.slice none 0 0, .int .i64 (Pl.least xs), .int .i64 (Pl.most xs), .int .i64 (Pl.total xs)] 100))
            have htw := twice_any (some ⟨b, o, none⟩) c xs _ hR1
            have HR1 := Aside0.mk hR1
            clear hR1
            clear hb0
            go_wp2_with fail
            refine htw.mono ?_
            rintro e w2 ⟨r, rfl, ⟨rfl, hnd⟩ | ⟨hr0, hnd⟩, hbl⟩
            · have H : newE xs = 0 := by unfold newE; rw [if_neg HN.out, if_neg h1, if_neg (by rw [HB.out]; simp), if_neg (by omega), if_pos hnd]
              replace H := Lib.hid H
              have hR2 := Kd.C_below HR1.out hbl
              have hso := sorted_any (some ⟨b, o, none⟩) c xs w2 hR2 hf (by omega)
              have hblk : Blk w2 w.heap.size 100 #[.slice none 0 0, .int .i64 (Pl.least xs), .int .i64 (Pl.most xs), .int .i64 (Pl.total xs)] := (Blk.new w _ _).below hbl (by simp)
              have hb2 : Below w.heap.size w w2 := ((Below.refl w.heap.size w).alloc (Nat.le_refl _) _).trans (hbl.mono (by simp))
              have hlt2 := hblk.lt
              replace hblk := Aside0.mk hblk
              replace hb2 := Aside0.mk hb2
              clear hbl hnd hR2 htw
              go_wp2_with fail
              refine hso.mono ?_
              rintro e w3 ⟨v, rfl, hv, hb3⟩
              have hblk3 := hblk.out.below hb3 hlt2
              have hc3 := hblk3.cell 0
              have hf3 := hblk3.frozen 0
              simp only [List.getElem?_toArray, List.getElem?_cons_zero] at hc3
              obtain ⟨A', c', rfl⟩ := Kd.R_slice hv
              replace hblk3 := Aside0.mk hblk3
              replace hv := Aside0.mk hv
              replace hb3 := Aside0.mk hb3
              clear hso
              go_wp2
              go_ret2
              refine ⟨_, by rw [H.out]; rfl, ?_, (hb2.out.trans (hb3.out.mono (by omega))).setCell (p := ⟨w.heap.size, 0, none⟩) (Nat.le_refl _) _⟩
              rw [if_pos H.out]
              refine .inr ⟨_, rfl, ⟨.slice A' (srt xs).length c', ?_, ?_⟩, fun h => ?_⟩
              · have := hblk3.out.set_ 0 (.slice A' (srt xs).length c')
                rw [least_perm (srt_perm xs), most_perm (srt_perm xs), total_perm (srt_perm xs)]
                exact this
              · exact Sl.of_R (Kd.R_far (Kd.R_bound hv.out) (p := ⟨w.heap.size, 0, none⟩) (fun j hj => by have h5 : w2.heap.size ≤ j := hj.2.1; show j ≠ w.heap.size; omega) _)
              · have := congrArg List.length h
                rw [srt_length] at this
                exact HN.out (List.eq_nil_of_length_eq_zero this)
            · have H : newE xs = 8 := by unfold newE; rw [if_neg HN.out, if_neg h1, if_neg (by rw [HB.out]; simp), if_neg (by omega), if_neg hnd]
              replace H := Lib.hid H
              have hb2 : Below w.heap.size w w2 := ((Below.refl w.heap.size w).alloc (Nat.le_refl _) _).trans (hbl.mono (by simp))
              replace hb2 := Aside0.mk hb2
              clear hbl hnd htw
              go_wp2
              go_ret2
              exact ⟨_, by rw [H.out]; rfl, by rw [if_neg (by rw [H.out]; omega)]; exact SetV.none_ _, hb2.out⟩
end Go.Proofs.Ythgjckibnojnpaa
