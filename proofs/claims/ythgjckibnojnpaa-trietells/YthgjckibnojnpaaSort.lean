/- affix.Sorted: the same texts, in order, in a new row. The library's sort by its contract off the shelf. -/
import Derived.Test.YthgjckibnojnpaaAffix
import Derived.Test.YthgjckibnojnpaaShelf
import Derived.Test.YthgjckibnojnpaaMem
import Derived.Sort.OwnSorted
set_option linter.unusedVariables false
set_option linter.unusedSimpArgs false
namespace Go.Proofs.Ythgjckibnojnpaa
open Go.RowKit Go.Proofs.YthgjckibnojnpaaW.PrintWords Go.Sort Pl

/-- A text that fits into memory. -/
abbrev BS := { s : ByteArray // s.size ≤ 140737488351232 }
instance : Inhabited BS := ⟨⟨⟨#[]⟩, by simp [ByteArray.size]⟩⟩
def encB (x : BS) : Value := .string x.1
def cmpB (x y : BS) : Int := cmpS (tx x.1) (tx y.1)
theorem ltB (x y : BS) : ltOf cmpB x y = ltStr (tx x.1) (tx y.1) := by
  unfold ltOf cmpB ltStr
  have := cmpS_lt (tx x.1) (tx y.1)
  by_cases h : tx x.1 < tx y.1 <;> simp [this, h]
theorem swoB : SWO (ltOf cmpB) where
  irrefl x := by rw [ltB]; exact swo_ltStr.irrefl _
  trans x y z h1 h2 := by rw [ltB] at *; exact swo_ltStr.trans _ _ _ h1 h2
  ntrans x y z h1 h2 := by rw [ltB] at *; exact swo_ltStr.ntrans _ _ _ h1 h2
theorem totB (x y : BS) (h1 : ltOf cmpB x y = false) (h2 : ltOf cmpB y x = false) : x = y := by
  rw [ltB] at h1 h2
  simp only [ltStr, decide_eq_false_iff_not] at h1 h2
  apply Subtype.ext
  apply tx_inj
  exact List.le_antisymm h2 h1

namespace Pl
/-- Texts in order. -/
def srt (l : List ByteArray) : List ByteArray := l.mergeSort (fun a b => !decide (tx b < tx a))
theorem srt_length (l : List ByteArray) : (srt l).length = l.length := by simp [srt]
theorem srt_nil : srt [] = [] := by simp [srt]
theorem srt_perm (l : List ByteArray) : (srt l).Perm l := List.mergeSort_perm _ _
end Pl

theorem srtB (l : List BS) : (l.mergeSort fun x y => !(ltOf cmpB) y x).map (·.1) = srt (l.map (·.1)) := by
  unfold srt
  refine List.map_mergeSort (fun a _ b _ => ?_)
  rw [ltB, ltStr]

theorem reads_lays (blk off size : Nat) (w : World) : CmpLays1 Try.prog 111 #[] encB cmpB blk off size w :=
  CmpReads.lays fun m os dk _ x y => compare_any x.1 y.1 _ x.2 y.2

theorem heap_sortedB {w : World} {g n : Nat} {os : Array Obj} {cur : Array Value} {e : TypeId} {fr : Nat × Nat} (d : Array BS) (hb : w.heap[g]? = some (.cells cur e fr)) :
    (sortWorld encB w g 0 n d os).heap[g]? = some (.cells (putCells encB 0 d cur) e fr) := by
  have hg : g < w.heap.size := (Array.getElem?_eq_some_iff.1 hb).1
  unfold sortWorld
  rw [heap_grow_old _ _ (by simpa using hg)]
  simp [putRow, mapBlock, Sort.ahead, Array.getElem?_modify, hb, onCells]
theorem grown_sortedB {w : World} {g n : Nat} {os : Array Obj} (d : Array BS) : w.grownBy (sortWorld encB w g 0 n d os) (some g) := by
  unfold sortWorld
  refine ⟨rfl, rfl, rfl, by simp, fun k hk hne => ?_⟩
  rw [heap_grow_old _ _ (by simpa using hk)]
  have : g ≠ k := fun e => hne (by rw [e])
  simp [putRow, mapBlock, Sort.ahead, Array.getElem?_modify, this]
theorem take_putB (cur : Array Value) (ts : List BS) (h : ts.length ≤ cur.size) : (putCells encB 0 ts.toArray cur).toList.take ts.length = ts.map encB := by
  apply List.ext_getElem?
  intro j
  by_cases hj : j < ts.length
  · rw [List.getElem?_take_of_lt hj, Array.getElem?_toList]
    simp [putCells, hj, show j < cur.size by omega]
  · rw [List.getElem?_take_eq_none (by omega), List.getElem?_eq_none (by simp; omega)]
theorem holds_ownB {w : World} {g base cap : Nat} {e : TypeId} {ss : List BS} (h : w.ownsRow base e 1 (.slice (some ⟨g, 0, none⟩) ss.length cap) ss.length (ss.map encB)) : Holds encB w g 0 ss.toArray := by
  rcases h.2 with ⟨h0, _⟩ | ⟨g', cap', cur, hv, hg, hb, _, _, _, ht⟩
  · cases h0
  · injection hv with hv _ _
    injection hv with hv
    injection hv with hv
    subst hv
    intro j hj
    have hj' : j < ss.length := by simpa using hj
    refine ⟨?_, by simp [World.frozen?, hb]⟩
    have h1 : (cur.toList.take (ss.length * 1))[j]? = (ss.map encB)[j]? := by rw [ht]
    rw [List.getElem?_take_of_lt (by omega)] at h1
    simp only [World.cell?, hb, Nat.zero_add]
    simp only [Option.isSome_none, Bool.false_eq_true, if_false]
    rw [← Array.getElem?_toList, h1]
    simp [hj']
theorem own_sortedB {w : World} {g base cap n : Nat} {e : TypeId} {os : Array Obj} {ss ts : List BS} (hl : ts.length = ss.length) (h : w.ownsRow base e 1 (.slice (some ⟨g, 0, none⟩) ss.length cap) ss.length (ss.map encB)) :
    (sortWorld encB w g 0 n ts.toArray os).ownsRow base e 1 (.slice (some ⟨g, 0, none⟩) ss.length cap) ss.length (ts.map encB) := by
  rcases h.2 with ⟨h0, _⟩ | ⟨g', cap', cur, hv, hg, hb, h1, h2, h3, ht⟩
  · cases h0
  · injection hv with hv _ hc
    injection hv with hv
    injection hv with hv
    subst hv
    subst hc
    exact ⟨by simp [hl], .inr ⟨g, cap, _, rfl, hg, heap_sortedB _ hb, h1, h2, by simp [putCells, h3], by rw [Nat.mul_one, ← hl]; exact take_putB cur ts (by omega)⟩⟩

/-- Each fits. -/
def Fit (xs : List ByteArray) : Prop := ∀ s ∈ xs, s.size ≤ 140737488351232
def toB (xs : List ByteArray) (h : Fit xs) : List BS := xs.attach.map fun s => ⟨s.1, h s.1 s.2⟩
theorem toB_val (xs : List ByteArray) (h : Fit xs) : (toB xs h).map (·.1) = xs := by simp [toB, List.map_map, Function.comp_def]
theorem toB_length (xs : List ByteArray) (h : Fit xs) : (toB xs h).length = xs.length := by simp [toB]
theorem encB_map (l : List BS) : l.map encB = (l.map (·.1)).map Value.string := by simp [encB, List.map_map, Function.comp_def]

/-- A row read, its address laid open. -/
theorem C_form {w : World} {A : Option Addr} {xs : List ByteArray} (h : Kd.C Kd.string w A xs.length xs) (hp : 0 < xs.length) :
    ∃ b o, A = some ⟨b, o, none⟩ ∧ b < w.heap.size ∧ ∀ j, j < xs.length → w.cell? ⟨b, o + j, none⟩ = some (.string (xs.getD j ByteArray.empty)) := by
  obtain ⟨ad, rfl, hc⟩ := Kd.at_string h 0 (by omega) (by omega)
  have hsp : ad.spot = none := by
    have := World.cell?_spot hc
    simpa [Addr.add] using this
  obtain ⟨b, o, sp⟩ := ad
  simp only at hsp
  subst hsp
  have hb := World.block_lt_of_cell? w _ hc
  rw [add_block] at hb
  refine ⟨b, o, rfl, hb, fun j hj => ?_⟩
  obtain ⟨ad', e, hc'⟩ := Kd.at_string h (j : Int) (by omega) (by omega)
  injection e with e
  subst e
  simp only [rdOf, Int.toNat_natCast] at hc'
  rw [← hc']
  congr 1
  unfold Addr.add
  split <;> simp_all

theorem sortCall (g cap : Nat) (l : List BS) (w : World) (hH : Holds encB w g 0 l.toArray) (hg : g < w.heap.size) (hsz : l.length < 4611686018427387904) :
    Calls Try.prog 110 #[.slice (some ⟨g, 0, none⟩) l.length cap, .func (.func 111) #[] #[]] w fun e w' =>
      e = .returned (.tuple #[]) ∧ ∃ n os, w' = sortWorld encB w g 0 n (l.mergeSort fun x y => !(ltOf cmpB) y x).toArray os := by
  have eg : ∀ args w, (callFunc 111 args).run Try.prog w = .ok (.enter 111 args) w := enters_of Try.func111 (by kernel_rfl) rfl
  have h := Try.slices_SortFunc_total encB (fun _ => rfl) cmpB swoB 111 #[] g 0 cap l.toArray w eg (reads_lays g 0 _ w) hH hg (by simpa using hsz) totB
  exact h

set_option maxHeartbeats 1000000 in
/-- affix.Sorted: the texts in order, in a row of the call's own. -/
theorem sorted_any (A : Option Addr) (c : Nat) (xs : List ByteArray) (w : World) (hr : Kd.C Kd.string w A xs.length xs) (hf : Fit xs) (hl : xs.length * 16 ≤ 140737488355328) :
    Calls Try.prog 79 #[.slice A xs.length c] w fun e w' => ∃ v, e = .returned v ∧ Kd.R Kd.string 9 w' w.heap.size (fun _ => True) v (srt xs) ∧ Below w.heap.size w w' := by
  rcases Nat.eq_zero_or_pos xs.length with h0 | hp
  · have hx : xs = [] := List.eq_nil_of_length_eq_zero h0
    subst hx
    clear hr
    cases A with
    | none =>
      have h1 := Try.slices_Clone_string_nil 0 c w
      have h2 := fun (W : World) => Try.slices_SortFunc_none (α := BS) none 0 (.func (.func 111) #[] #[]) W
      go_enter Try.func79, Try.ntmps79
      go_wp2_with (first
        | (go_at_call 101; refine h1.mono ?_; rintro e w' ⟨rfl, rfl⟩)
        | (go_at_call 110; refine (h2 _).mono ?_; rintro e w' ⟨rfl, rfl⟩))
      go_ret
      exact ⟨_, rfl, by rw [srt_nil]; exact Kd.R_nil _ _ _ _ _, Below.refl _ _⟩
    | some a =>
      have h1 := Try.slices_Clone_string_zero a c w
      have h2 := fun (p : Option Addr) (n : Nat) (W : World) => Try.slices_SortFunc_none (α := BS) p n (.func (.func 111) #[] #[]) W
      go_enter Try.func79, Try.ntmps79
      go_wp2_with fail
      refine h1.mono ?_
      rintro e w1 ⟨v, rfl, hown, hne, hb⟩
      obtain ⟨A', c', rfl⟩ := own_slice hown
      have HO := Aside0.mk hown
      have HB := Aside0.mk hb
      clear hown hne hb
      go_wp2_with (go_at_call 110; refine (h2 _ _ _).mono ?_; rintro e w' ⟨rfl, rfl⟩)
      go_ret
      exact ⟨_, rfl, by rw [srt_nil]; exact Kd.R_of_own (h1 := fun _ => rfl) HO.out (fun _ _ => trivial), HB.out⟩
  · obtain ⟨b, o, rfl, hb, hc⟩ := C_form hr hp
    clear hr
    have h1 := Try.slices_Clone_string b o xs.length c xs w (Nat.le_refl _) hl hc
    rw [List.take_length] at h1
    have h2 := fun (g cap : Nat) (W : World) => sortCall g cap (toB xs hf) W
    simp only [toB_length] at h2
    clear hc
    go_enter Try.func79, Try.ntmps79
    go_wp2_with fail
    refine h1.mono ?_
    rintro e w1 ⟨v, rfl, hown, hne, hbw⟩
    obtain ⟨g, cap, rfl, hbase, hg⟩ := hown.form hp
    have hown' : w1.ownsRow w.heap.size 9 1 (.slice (some ⟨g, 0, none⟩) (toB xs hf).length cap) (toB xs hf).length ((toB xs hf).map encB) := by
      rw [encB_map, toB_val, toB_length]; exact hown
    have h3 := h2 g cap w1 (holds_ownB hown') hg (by omega)
    have HO := Aside0.mk hown'
    have HB := Aside0.mk hbw
    clear hown hown' hne hbw h2
    go_wp2_with (go_at_call 110; refine h3.mono ?_; rintro e w' ⟨rfl, n, os, rfl⟩)
    go_ret
    refine ⟨_, rfl, ?_, HB.out.grown (grown_sortedB _) HB.out.size (fun k hk => by cases hk; exact hbase)⟩
    have h4 := own_sortedB (n := n) (os := os) (ts := (toB xs hf).mergeSort fun x y => !(ltOf cmpB) y x) (by simp) HO.out
    rw [encB_map, srtB, toB_val, toB_length] at h4
    exact Kd.R_of_own (h1 := fun _ => rfl) (by rw [srt_length]; exact h4) (fun _ _ => trivial)
end Go.Proofs.Ythgjckibnojnpaa
