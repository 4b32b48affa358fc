/- The trie's Bytes and Find, and the statement TrieNone: their walks. -/
import Derived.Test.YthgjckibnojnpaaTrieX
import Derived.Test.YthgjckibnojnpaaBuild
import Derived.Test.YthgjckibnojnpaaLaw16
import Derived.Deep.DeepCutAuto
import Derived.Test.YthgjckibnojnpaaRef16
import Derived.BigQuiet
set_option linter.unusedVariables false
set_option linter.unusedSimpArgs false
namespace Go.Proofs.Ythgjckibnojnpaa
open Go.RowKit Go.Proofs.YthgjckibnojnpaaW.PrintWords Go.Proofs.YthgjckibnojnpaaW.PrintLast Pl

theorem trieBytesNo (p : Option Addr) (N : Nat) (s : Int) (hs : ¬ (0 ≤ s ∧ s < N)) (w : World) (hL : Calls Try.prog 44 #[.pointer p] w fun e w' => e = .returned (.int .i64 N) ∧ w = w') :
    Calls Try.prog 54 #[.pointer p, .int .i64 s] w fun e w' => e = .returned (.string ByteArray.empty) ∧ w = w' := by
  have hi := trieIs p N s w hL
  rw [decide_eq_false hs] at hi
  replace hi := Aside0.mk hi
  clear hL hs
  go_enter Try.func54, Try.ntmps54
  go_wp2_with fail
  refine hi.out.mono ?_
  rintro e w' ⟨rfl, rfl⟩
  go_wp2
  go_ret
  exact ⟨rfl, rfl⟩
set_option maxHeartbeats 4000000 in
set_option maxRecDepth 20000 in
theorem trieBytes (g : Nat) (sts : List TS) (s : Nat) (hs : s < sts.length) (w : World) (h : TrieAt w g sts) (f m : Nat) (hf : sts[s].first = (f : Int)) (hm : sts[s].many = (m : Int)) (hle : f + m ≤ sts.length)
    (L : List UInt8) (hL : L.length = m) (hb : ∀ (k : Nat) (h1 : k < L.length) (h2 : f + k < sts.length), sts[f + k].by_ = (L[k].toNat : Int)) :
    Calls Try.prog 54 #[.pointer (some ⟨g, 0, none⟩), .int .i64 s] w fun e w' => e = .returned (.string ⟨L.toArray⟩) ∧ Below w.heap.size w w' := by
  have hi := trieIs _ _ s w (trieLen g sts w h)
  rw [decide_eq_true (show (0 : Int) ≤ s ∧ (s : Int) < sts.length by omega)] at hi
  obtain ⟨q, cap, h1, h2, h3, h4⟩ := h.row
  have x1 : ((0 : Int) ≤ (s : Int)) = True := eq_true (by omega)
  have x2 : ((s : Int) < (sts.length : Int)) = True := eq_true (by omega)
  have hc4 := h4 s hs 4 (by omega)
  have hc5 := h4 s hs 5 (by omega)
  simp only [TS.cells, List.getElem?_cons_succ, List.getElem?_cons_zero, Nat.add_zero] at hc4 hc5
  rw [hf] at hc4
  rw [hm] at hc5
  clear hf hm
  have hlen := h.len
  have hcells : ∀ W', Below w.heap.size w W' → W'.cell? ⟨g, 0, none⟩ = some (.slice (some ⟨q, 0, none⟩) sts.length cap) ∧ W'.cell? ⟨q, s * 6 + 4, none⟩ = some (.int .i64 f) ∧ W'.cell? ⟨q, s * 6 + 5, none⟩ = some (.int .i64 m) ∧
      ∀ (k : Nat) (hk : k < L.length), W'.cell? ⟨q, (f + k) * 6 + 1, none⟩ = some (.int .u8 (L[k].toNat : Int)) := fun W' hB =>
    ⟨(hB.cell (p := ⟨g, 0, none⟩) h.lt).trans h1, (hB.cell (p := ⟨q, s * 6 + 4, none⟩) h3).trans hc4, (hB.cell (p := ⟨q, s * 6 + 5, none⟩) h3).trans hc5, fun k hk => by
      have := h4 (f + k) (by omega) 1 (by omega)
      simp only [TS.cells, List.getElem?_cons_succ, List.getElem?_cons_zero] at this
      rw [hb k hk (by omega)] at this
      exact (hB.cell (p := ⟨q, (f + k) * 6 + 1, none⟩) h3).trans this⟩
  have hbd := Bd.new w
  have hB0 : Below w.heap.size w (w.alloc (.cells #[.pointer none, .slice none 0 0] 112)) := (Below.refl _ _).alloc (Nat.le_refl _) _
  obtain ⟨k1, _, k3, _⟩ := hcells _ hB0
  replace h := Aside0.mk h
  replace h4 := Aside0.mk h4
  replace hi := Aside0.mk hi
  replace hb := Aside0.mk hb
  replace hcells := Aside0.mk hcells
  replace hbd := Aside0.mk hbd
  replace hB0 := Aside0.mk hB0
  clear hc4 hc5 h1
  go_enter Try.func54, Try.ntmps54
  go_wp2_with fail
  refine hi.out.mono ?_
  rintro e w' ⟨rfl, rfl⟩
  go_wp2
  clear k1 k3
  go_loopg [19] m (fun gh s19 wx => ∃ k : Nat, s19 = .int .i64 k ∧ k + gh = m ∧ Aside0 (Bd w.heap.size w.heap.size (L.take k) wx) ∧ Aside0 (Below w.heap.size w wx))
  case atStart => exact ⟨0, rfl, by omega, hbd, hB0⟩
  case round =>
    clear hbd hB0
    obtain ⟨k, rfl, hk, hd, hB⟩ := hrel
    rename World => W1
    by_cases hlt : k < m
    · have d1 : decide ((k : Int) < (m : Int)) = true := decide_eq_true (by omega)
      have d1' : decide (k < m) = true := decide_eq_true hlt
      have hkL : k < L.length := by omega
      have hd2 := Bd.below hd.out ((Below.refl W1.heap.size W1).drew)
      have hB2 := hB.out.drew
      obtain ⟨c1, c2, _, c3⟩ := hcells.out _ hB2
      replace c3 := c3 k hkL
      obtain ⟨fk, hfk⟩ : ∃ fk, fk = f + k := ⟨_, rfl⟩
      rw [← hfk] at c3
      have x3 : ((0 : Int) ≤ (fk : Int)) = True := eq_true (by omega)
      have x4 : ((fk : Int) < (sts.length : Int)) = True := eq_true (by omega)
      have htk : L.take (k + 1) = L.take k ++ [L[k]] := List.take_succ_eq_append_getElem hkL
      have hwr := fun (h : (L.take k).length + 1 ≤ 140737488355328) => writeByte w.heap.size w.heap.size (L.take k) L[k] _ hd2 h hB2.size
      replace hwr := hwr (by rw [List.length_take]; omega)
      replace hwr := Aside0.mk hwr
      replace hB2 := Aside0.mk hB2
      replace htk := Aside0.mk htk
      clear hd hd2
      replace hfk := Lib.hid hfk
      go_upto_region 7 with fail
      have hw : wrap64 ((f : Int) + (k : Int)) = (fk : Int) := by rw [hfk.out]; exact wrap_in (by omega) (by omega)
      refine start_ (n := 18) (S := fun w' => w'.cell? ⟨g, 0, none⟩ = some ((.slice (some ⟨q, 0, none⟩) sts.length cap)) ∧ w'.cell? ⟨q, s * 6 + 4, none⟩ = some (.int .i64 f) ∧ w'.cell? ⟨q, fk * 6 + 1, none⟩ = some (.int .u8 (L[k].toNat : Int))) (ds := [17]) #[false, false, false, false, false, false, false, false, false, false, false, false, false, false, false, false, false, false] (by kernel_rfl) rfl rfl ⟨c1, c2, c3⟩ (fun hHeld => ?_)
      clear c1 c2 c3
      generalize W1.drew = W2 at hB2 hwr hHeld ⊢
      refine pure_ (i := 0) (N := some 22) (v := ?_) (a' := ?_) #[true, false, false, false, false, false, false, false, false, false, false, false, false, false, false, false, false, false] rfl rfl (by kernel_rfl) (fun _ _ _ h => h) (Or.inl ⟨by rfl, ?_⟩) ?_ ?_
      rotate_left
      · intro w'
        go_simp
        with_reducible rfl
      rotate_left
      · simp only [Act.put, List.setIfInBounds_toArray, List.set_cons_zero, List.set_cons_succ, i64_w, i32_w]
        rfl
      refine pure_ (i := 1) (N := some 23) (v := ?_) (a' := ?_) #[true, true, false, false, false, false, false, false, false, false, false, false, false, false, false, false, false, false] rfl rfl (by kernel_rfl) (fun _ _ _ h => h) (Or.inl ⟨by rfl, ?_⟩) ?_ ?_
      rotate_left
      · intro w'
        go_simp
        with_reducible rfl
      rotate_left
      · simp only [Act.put, List.setIfInBounds_toArray, List.set_cons_zero, List.set_cons_succ, i64_w, i32_w]
        rfl
      refine pure_ (i := 2) (N := some 24) (v := ?_) (a' := ?_) #[true, true, true, false, false, false, false, false, false, false, false, false, false, false, false, false, false, false] rfl rfl (by kernel_rfl) (fun _ _ _ h => h) (Or.inl ⟨by rfl, ?_⟩) ?_ ?_
      rotate_left
      · intro w'
        go_simp
        with_reducible rfl
      rotate_left
      · simp only [Act.put, List.setIfInBounds_toArray, List.set_cons_zero, List.set_cons_succ, i64_w, i32_w]
        rfl
      refine pure_ (i := 4) (N := some 26) (v := ?_) (a' := ?_) #[true, true, true, false, true, false, false, false, false, false, false, false, false, false, false, false, false, false] rfl rfl (by kernel_rfl) (fun _ _ _ h => h) (Or.inl ⟨by rfl, ?_⟩) ?_ ?_
      rotate_left
      · intro w'
        go_simp
        with_reducible rfl
      rotate_left
      · simp only [Act.put, List.setIfInBounds_toArray, List.set_cons_zero, List.set_cons_succ, i64_w, i32_w]
        rfl
      refine pure_ (i := 5) (N := some 27) (v := ?_) (a' := ?_) #[true, true, true, false, true, true, false, false, false, false, false, false, false, false, false, false, false, false] rfl rfl (by kernel_rfl) (fun _ _ _ h => h) (Or.inl ⟨by rfl, ?_⟩) ?_ ?_
      rotate_left
      · intro w'
        go_simp
        with_reducible rfl
      rotate_left
      · simp only [Act.put, List.setIfInBounds_toArray, List.set_cons_zero, List.set_cons_succ, i64_w, i32_w]
        rfl
      refine pure_ (i := 6) (N := some 28) (v := ?_) (a' := ?_) #[true, true, true, false, true, true, true, false, false, false, false, false, false, false, false, false, false, false] rfl rfl (by kernel_rfl) (fun _ _ _ h => h) (Or.inl ⟨by rfl, ?_⟩) ?_ ?_
      rotate_left
      · intro w'
        go_simp
        with_reducible rfl
      rotate_left
      · simp only [Act.put, List.setIfInBounds_toArray, List.set_cons_zero, List.set_cons_succ, i64_w, i32_w]
        rfl
      refine pure_ (i := 8) (N := some 30) (v := ?_) (a' := ?_) #[true, true, true, false, true, true, true, false, true, false, false, false, false, false, false, false, false, false] rfl rfl (by kernel_rfl) (fun _ _ _ h => h) (Or.inl ⟨by rfl, ?_⟩) ?_ ?_
      rotate_left
      · intro w'
        go_simp
        with_reducible rfl
      rotate_left
      · simp only [Act.put, List.setIfInBounds_toArray, List.set_cons_zero, List.set_cons_succ, i64_w, i32_w]
        rfl
      refine pure_ (i := 12) (N := some 34) (v := ?_) (a' := ?_) #[true, true, true, false, true, true, true, false, true, false, false, false, true, false, false, false, false, false] rfl rfl (by kernel_rfl) (fun _ _ _ h => h) (Or.inl ⟨by rfl, ?_⟩) ?_ ?_
      rotate_left
      · intro w'
        go_simp
        with_reducible rfl
      rotate_left
      · simp only [Act.put, List.setIfInBounds_toArray, List.set_cons_zero, List.set_cons_succ, i64_w, i32_w]
        rfl
      refine take_ (i := 3) (N := some 25) (v := ?_) (a' := ?_) #[true, true, true, true, true, true, true, false, true, false, false, false, true, false, false, false, false, false] rfl rfl (by kernel_rfl) (fun _ _ _ h => h) (Or.inl ⟨by rfl, ?_⟩) hHeld ?_ ?_
      rotate_left
      · rintro w' ⟨s0, s1, s2⟩
        go_simp
        with_reducible rfl
      rotate_left
      · simp only [Act.put, List.setIfInBounds_toArray, List.set_cons_zero, List.set_cons_succ, i64_w, i32_w]
        rfl
      refine take_ (i := 7) (N := some 29) (v := ?_) (a' := ?_) #[true, true, true, true, true, true, true, true, true, false, false, false, true, false, false, false, false, false] rfl rfl (by kernel_rfl) (fun _ _ _ h => h) (Or.inl ⟨by rfl, ?_⟩) hHeld ?_ ?_
      rotate_left
      · rintro w' ⟨s0, s1, s2⟩
        go_simp
        with_reducible rfl
      rotate_left
      · simp only [Act.put, List.setIfInBounds_toArray, List.set_cons_zero, List.set_cons_succ, i64_w, i32_w]
        rfl
      refine pure_ (i := 9) (N := some 31) (v := ?_) (a' := ?_) #[true, true, true, true, true, true, true, true, true, true, false, false, true, false, false, false, false, false] rfl rfl (by kernel_rfl) (fun _ _ _ h => h) (Or.inl ⟨by rfl, ?_⟩) ?_ ?_
      rotate_left
      · intro w'
        go_simp
        with_reducible rfl
      rotate_left
      · simp only [Act.put, List.setIfInBounds_toArray, List.set_cons_zero, List.set_cons_succ, i64_w, i32_w]
        rfl
      refine pure_ (i := 10) (N := some 32) (v := ?_) (a' := ?_) #[true, true, true, true, true, true, true, true, true, true, true, false, true, false, false, false, false, false] rfl rfl (by kernel_rfl) (fun _ _ _ h => h) (Or.inl ⟨by rfl, ?_⟩) ?_ ?_
      rotate_left
      · intro w'
        go_simp
        with_reducible rfl
      rotate_left
      · simp only [Act.put, List.setIfInBounds_toArray, List.set_cons_zero, List.set_cons_succ, i64_w, i32_w]
        rfl
      refine take_ (i := 11) (N := some 33) (v := ?_) (a' := ?_) #[true, true, true, true, true, true, true, true, true, true, true, true, true, false, false, false, false, false] rfl rfl (by kernel_rfl) (fun _ _ _ h => h) (Or.inl ⟨by rfl, ?_⟩) hHeld ?_ ?_
      rotate_left
      · rintro w' ⟨s0, s1, s2⟩
        go_simp
        with_reducible rfl
      rotate_left
      · simp only [Act.put, List.setIfInBounds_toArray, List.set_cons_zero, List.set_cons_succ, i64_w, i32_w]
        rfl
      refine pure_ (i := 13) (N := some 35) (v := ?_) (a' := ?_) #[true, true, true, true, true, true, true, true, true, true, true, true, true, true, false, false, false, false] rfl rfl (by kernel_rfl) (fun _ _ _ h => h) (Or.inl ⟨by rfl, ?_⟩) ?_ ?_
      rotate_left
      · intro w'
        go_simp
        with_reducible rfl
      rotate_left
      · simp only [Act.put, List.setIfInBounds_toArray, List.set_cons_zero, List.set_cons_succ, i64_w, i32_w]
        rfl
      refine pure_ (i := 14) (N := some 36) (v := ?_) (a' := ?_) #[true, true, true, true, true, true, true, true, true, true, true, true, true, true, true, false, false, false] rfl rfl (by kernel_rfl) (fun _ _ _ h => h) (Or.inl ⟨by rfl, ?_⟩) ?_ ?_
      rotate_left
      · intro w'
        go_simp
        with_reducible rfl
      rotate_left
      · simp only [Act.put, List.setIfInBounds_toArray, List.set_cons_zero, List.set_cons_succ, i64_w, i32_w]
        rfl
      refine pure_ (i := 15) (N := some 37) (v := ?_) (a' := ?_) #[true, true, true, true, true, true, true, true, true, true, true, true, true, true, true, true, false, false] rfl rfl (by kernel_rfl) (fun _ _ _ h => h) (Or.inl ⟨by rfl, ?_⟩) ?_ ?_
      rotate_left
      · intro w'
        go_simp
        with_reducible rfl
      rotate_left
      · simp only [Act.put, List.setIfInBounds_toArray, List.set_cons_zero, List.set_cons_succ, i64_w, i32_w]
        rfl
      refine take_ (i := 16) (N := some 38) (v := ?_) (a' := ?_) #[true, true, true, true, true, true, true, true, true, true, true, true, true, true, true, true, true, false] rfl rfl (by kernel_rfl) (fun _ _ _ h => h) (Or.inl ⟨by rfl, ?_⟩) hHeld ?_ ?_
      rotate_left
      · rintro w' ⟨s0, s1, s2⟩
        go_simp
        with_reducible rfl
      rotate_left
      · simp only [Act.put, List.setIfInBounds_toArray, List.set_cons_zero, List.set_cons_succ, i64_w, i32_w]
        rfl
      refine last_ (i := 17) (N := some 39) #[true, true, true, true, true, true, true, true, true, true, true, true, true, true, true, true, true, true] rfl rfl (by kernel_rfl) (by decide) (fun K hK => ?_)
      refine goes_ Try.func95 (by kernel_rfl) rfl #[.pointer (some ⟨w.heap.size, 0, none⟩), .int .u8 (L[k].toNat : Int)] (by rfl) rfl rfl (by simp only [List.map_toArray, List.map_cons, List.map_nil]; rfl) ?_
      with_reducible refine (hwr.out).mono ?_
      rintro e w3 ⟨rfl, hbd, hb3, _⟩
      refine ⟨_, rfl, ?_⟩
      have hB5 := Aside0.mk (hB2.out.trans hb3)
      clear hHeld hb3 hwr hB2
      refine hK.out _ _ ?_
      clear hK K
      refine norm_ (a' := ?_) ?_ ?_
      rotate_left
      · show Act.put _ (some 39) _ = _
        simp only [Act.put, List.setIfInBounds_toArray, List.set_cons_zero, List.set_cons_succ, i64_w, i32_w]
        rfl
      refine done_ (by kernel_rfl) ?_
      replace hbd := Aside0.mk hbd
      rw [← htk.out] at hbd
      clear hw x3 x4
      go_wp2
      go_roundg (gk - 1)
      case measure => omega
      case rel => exact ⟨k + 1, by go_num, by omega, hbd, hB5⟩
    · have d1 : decide ((k : Int) < (m : Int)) = false := decide_eq_false (by omega)
      have d1' : decide (k < m) = false := decide_eq_false hlt
      rw [List.take_of_length_le (by omega)] at hd
      have hst := Try.Builder_String_any w.heap.size w.heap.size L W1 hd.out hB.out.size
      replace hst := Aside0.mk hst
      clear hlt
      go_wp2_with fail
      refine hst.out.mono ?_
      rintro e w5 ⟨rfl, hb5⟩
      replace hb5 := Aside0.mk hb5
      go_wp2
      go_ret
      exact ⟨rfl, hB.out.trans hb5.out⟩
namespace Pl
def kidOf (p q : ByteArray) : Option UInt8 := if q.size = p.size + 1 ∧ (tx q).take p.size = tx p then some ((tx q).getD p.size 0) else none
/-- The bytes by which a state leads on. -/
def kidB (S : List ByteArray) (p : ByteArray) : List UInt8 := S.filterMap (kidOf p)
theorem kidOf_iff (p q : ByteArray) (c : UInt8) : kidOf p q = some c ↔ tx q = tx p ++ [c] := by
  unfold kidOf
  constructor
  · intro h
    split at h
    · rename_i hh
      injection h with h
      have := take_snoc (s := q) (n := p.size) (by omega)
      rw [List.take_of_length_le (by rw [tx_length]; omega), hh.2, h] at this
      exact this
    · cases h
  · intro h
    have hl := congrArg List.length h
    rw [List.length_append, tx_length, tx_length, List.length_singleton] at hl
    rw [if_pos ⟨hl, by rw [h, List.take_left' (tx_length p)]⟩, h]
    simp [List.getD_eq_getElem?_getD, List.getElem?_append_right, tx_length]
theorem filterMap_all {α β : Type} (g : α → Option β) : ∀ (l : List α), (∀ a ∈ l, (g a).isSome = true) → (l.filterMap g).length = l.length ∧ ∀ (k : Nat) (b : β), (l.filterMap g)[k]? = some b → ∃ a, l[k]? = some a ∧ g a = some b
  | [], _ => ⟨rfl, fun k b h => by simp at h⟩
  | a :: l, h => by
    obtain ⟨b, hb⟩ := Option.isSome_iff_exists.1 (h a (by simp))
    obtain ⟨i1, i2⟩ := filterMap_all g l (fun x hx => h x (by simp [hx]))
    rw [List.filterMap_cons_some hb]
    refine ⟨by simp [i1], fun k b' hk => ?_⟩
    cases k with
    | zero => simp at hk; subst hk; exact ⟨a, rfl, hb⟩
    | succ k => simpa using i2 k b' (by simpa using hk)
theorem filterMap_mid {α β : Type} (g : α → Option β) (l : List α) (f m : Nat) (h : f + m ≤ l.length) (hn : ∀ (j : Nat) (a : α), l[j]? = some a → ¬ (f ≤ j ∧ j < f + m) → g a = none) (hs : ∀ (j : Nat) (a : α), l[j]? = some a → f ≤ j → j < f + m → (g a).isSome = true) :
    (l.filterMap g).length = m ∧ ∀ (k : Nat) (b : β), (l.filterMap g)[k]? = some b → ∃ a, l[f + k]? = some a ∧ g a = some b := by
  have e : l.filterMap g = ((l.drop f).take m).filterMap g := by
    have e1 : l = l.take f ++ ((l.drop f).take m ++ (l.drop f).drop m) := by rw [List.take_append_drop, List.take_append_drop]
    have e2 : (l.take f).filterMap g = [] := List.filterMap_eq_nil_iff.2 fun a ha => by
      obtain ⟨j, hj, rfl⟩ := List.getElem_of_mem ha
      rw [List.length_take] at hj
      exact hn j _ (by rw [List.getElem_take, List.getElem?_eq_getElem (by omega)]) (by omega)
    have e3 : ((l.drop f).drop m).filterMap g = [] := List.filterMap_eq_nil_iff.2 fun a ha => by
      obtain ⟨j, hj, rfl⟩ := List.getElem_of_mem ha
      rw [List.length_drop, List.length_drop] at hj
      exact hn (f + (m + j)) _ (by rw [List.getElem_drop, List.getElem_drop, List.getElem?_eq_getElem (by omega)]) (by omega)
    rw [e1, List.filterMap_append, List.filterMap_append, e2, e3, List.nil_append, List.append_nil, ← e1]
  rw [e]
  have hall : ∀ a ∈ (l.drop f).take m, (g a).isSome = true := fun a ha => by
    obtain ⟨j, hj, rfl⟩ := List.getElem_of_mem ha
    rw [List.length_take, List.length_drop] at hj
    exact hs (f + j) _ (by rw [List.getElem_take, List.getElem_drop, List.getElem?_eq_getElem (by omega)]) (by omega) (by omega)
  obtain ⟨i1, i2⟩ := filterMap_all g _ hall
  refine ⟨by rw [i1, List.length_take, List.length_drop]; omega, fun k b hk => ?_⟩
  obtain ⟨a, h1, h2⟩ := i2 k b hk
  refine ⟨a, ?_, h2⟩
  rw [List.getElem?_take] at h1
  split at h1
  · rw [List.getElem?_drop] at h1
    exact h1
  · cases h1
theorem kids_eq {xs S : List ByteArray} {sts : List TS} (T : GoodT xs S sts) {s : Nat} {t : TS} {p : ByteArray} {f m : Nat} (ht : sts[s]? = some t) (hp : S[s]? = some p) (hf : 0 < f) (hle : f + m ≤ sts.length)
    (hk : ∀ (j : Nat) (u : TS), 0 < j → sts[j]? = some u → (u.above = (s : Int) ↔ f ≤ j ∧ j < f + m)) :
    (kidB S p).length = m ∧ ∀ (k : Nat) (h1 : k < (kidB S p).length) (h2 : f + k < sts.length), sts[f + k].by_ = (((kidB S p)[k]).toNat : Int) := by
  have hst : ∀ (j : Nat) (q : ByteArray), S[j]? = some q → ∃ u, sts[j]? = some u := fun j q hq => ⟨_, List.getElem?_eq_getElem (by rw [T.len]; exact (List.getElem?_eq_some_iff.1 hq).1)⟩
  obtain ⟨i1, i2⟩ := filterMap_mid (kidOf p) S f m (by rw [← T.len]; exact hle) (fun j q hq hn => by
      cases e : kidOf p q with
      | none => rfl
      | some c =>
        obtain ⟨u, hu⟩ := hst j q hq
        obtain ⟨g1, g2, _⟩ := (GoodT.kid T ht hp hu hq hk hf c).2 ((kidOf_iff p q c).1 e)
        exact absurd ⟨g1, g2⟩ hn) (fun j q hq h1 h2 => by
      obtain ⟨u, hu⟩ := hst j q hq
      obtain ⟨a, q', b, u1, u2, u3, u4, u5⟩ := T.up j u q (by omega) hu hq
      have e := (GoodT.kid T ht hp hu hq hk hf b).1 ⟨h1, h2, u5⟩
      rw [(kidOf_iff p q b).2 e]
      rfl)
  refine ⟨i1, fun k h1 h2 => ?_⟩
  obtain ⟨q, hq, e⟩ := i2 k _ (List.getElem?_eq_getElem h1)
  have hu := List.getElem?_eq_getElem h2
  exact ((GoodT.kid T ht hp hu hq hk hf _).2 ((kidOf_iff p q _).1 e)).2.2
end Pl
theorem trieBytesS (g : Nat) (xs S : List ByteArray) (sts : List TS) (T : GoodT xs S sts) (s : Nat) (p : ByteArray) (hp : S[s]? = some p) (w : World) (h : TrieAt w g sts) :
    Calls Try.prog 54 #[.pointer (some ⟨g, 0, none⟩), .int .i64 s] w fun e w' => e = .returned (.string ⟨(kidB S p).toArray⟩) ∧ Below w.heap.size w w' := by
  have hs : s < sts.length := by rw [T.len]; exact (List.getElem?_eq_some_iff.1 hp).1
  have hst : sts[s]? = some sts[s] := List.getElem?_eq_getElem hs
  obtain ⟨f, m, h1, h2, h3, h4, h5, h6⟩ := GoodT.kids T hst
  obtain ⟨k1, k2⟩ := kids_eq T hst hp h3 h4 h5
  exact trieBytes g sts s hs w h f m h1 h2 h4 (kidB S p) k1 k2

set_option maxHeartbeats 1000000 in
set_option maxRecDepth 20000 in
theorem trieFindNil (p : ByteArray) (hp : p.size ≤ 140737488351232) (w : World) : Calls Try.prog 56 #[.pointer none, .string p] w fun e w' => e = .returned (.tuple #[.int .i64 0, .bool false]) ∧ w = w' := by
  have hL := trieLenNil w
  have hi := trieIs none 0 0 w hL
  have hn : ∀ c : Int, Calls Try.prog 47 #[.pointer none, .int .i64 0, .int .u8 c] w fun e w' => e = .returned (.tuple #[.int .i64 0, .bool false]) ∧ w = w' := fun c => trieNextNo none 0 0 c (by omega) w hL
  rw [decide_eq_false (show ¬ ((0 : Int) ≤ 0 ∧ (0 : Int) < ((0 : Nat) : Int)) by omega)] at hi
  replace hi := Aside0.mk hi
  replace hn := Aside0.mk hn
  clear hL
  go_enter Try.func56, Try.ntmps56
  go_wp2
  by_cases h0 : p.size = 0
  · have d1 : decide (0 < (p.size : Int)) = false := decide_eq_false (by omega)
    have d1' : decide (0 < p.size) = false := decide_eq_false (by omega)
    clear h0
    go_loopg [6, 12] 1 (fun gh s6 s12 wx => s6 = .int .i64 0 ∧ s12 = .int .i64 0 ∧ wx = w)
    case atStart => exact ⟨rfl, rfl, rfl⟩
    case round =>
      obtain ⟨rfl, rfl, rfl⟩ := hrel
      go_wp2_with fail
      refine hi.out.mono ?_
      rintro e w' ⟨rfl, rfl⟩
      go_wp2
      go_ret2
      exact ⟨rfl, rfl⟩
  · have d1 : decide (0 < (p.size : Int)) = true := decide_eq_true (by omega)
    have d1' : decide (0 < p.size) = true := decide_eq_true (by omega)
    have x1 : (0 < p.size) = True := eq_true (by omega)
    have x2 : ((0 : Int) < (p.size : Int)) = True := eq_true (by omega)
    clear h0
    go_loopg [6, 12] 1 (fun gh s6 s12 wx => s6 = .int .i64 0 ∧ s12 = .int .i64 0 ∧ wx = w)
    case atStart => exact ⟨rfl, rfl, rfl⟩
    case round =>
      obtain ⟨rfl, rfl, rfl⟩ := hrel
      go_wp2_with fail
      refine (hn.out _).mono ?_
      rintro e w' ⟨rfl, rfl⟩
      go_wp2
      go_ret2
      exact ⟨rfl, rfl⟩
theorem beg_zero (p : ByteArray) : beg p 0 = ByteArray.empty := tx_inj (by rw [tx_beg, List.take_zero]; rfl)
theorem beg_all (p : ByteArray) : beg p p.size = p := tx_inj (by rw [tx_beg, List.take_of_length_le (by rw [tx_length]; exact Nat.le_refl _)])
set_option maxHeartbeats 4000000 in
set_option maxRecDepth 20000 in
theorem trieFind (g : Nat) (xs S : List ByteArray) (sts : List TS) (T : GoodT xs S sts) (p : ByteArray) (hp : p.size ≤ 140737488351232) (w : World) (h : TrieAt w g sts) :
    Calls Try.prog 56 #[.pointer (some ⟨g, 0, none⟩), .string p] w fun e w' => ((∃ k : Nat, S[k]? = some p ∧ e = .returned (.tuple #[.int .i64 k, .bool true])) ∨ (p ∉ S ∧ e = .returned (.tuple #[.int .i64 0, .bool false]))) ∧ ∃ n, w' = w.drewN n := by
  replace h := Aside0.mk h
  replace T := Aside0.mk T
  go_enter Try.func56, Try.ntmps56
  go_wp2
  go_loopg [6, 12] p.size (fun gh s6 s12 wx => ∃ (i sc n : Nat), s6 = .int .i64 sc ∧ s12 = .int .i64 i ∧ i + gh = p.size ∧ Aside0 (S[sc]? = some (beg p i)) ∧ wx = w.drewN n)
  case atStart => exact ⟨0, 0, 0, rfl, rfl, by omega, ⟨by rw [beg_zero]; exact T.out.root⟩, rfl⟩
  case round =>
    obtain ⟨i, sc, n, rfl, rfl, hi, hsc, rfl⟩ := hrel
    have hT := h.out.drewN n
    by_cases hlt : i < p.size
    · have d1 : decide ((i : Int) < (p.size : Int)) = true := decide_eq_true (by omega)
      have d1' : decide (i < p.size) = true := decide_eq_true hlt
      have x1 : (i < p.size) = True := eq_true hlt
      have x2 : ((i : Int) < (p.size : Int)) = True := eq_true (by omega)
      have x3 : ((0 : Int) ≤ (i : Int)) = True := eq_true (by omega)
      have hnx := trieNextS g xs S sts T.out sc _ hsc.out (p[i]'hlt) _ hT
      have htb : ∀ q, tx q = tx (beg p i) ++ [p[i]'hlt] → q = beg p (i + 1) := fun q hq => tx_inj (by
        rw [hq, tx_beg, tx_beg, take_snoc hlt, tx_get, List.getD_eq_getElem?_getD, List.getElem?_eq_getElem (by rw [tx_length]; exact hlt)]
        rfl)
      replace hnx := Aside0.mk hnx
      replace htb := Aside0.mk htb
      clear hT
      go_wp2_with fail
      refine hnx.out.mono ?_
      rintro e w' ⟨he, n2, rfl⟩
      rcases he with ⟨k, q, g1, g2, rfl⟩ | ⟨g1, rfl⟩
      · have hq := htb.out q g2
        subst hq
        replace g1 := Aside0.mk g1
        clear hnx htb g2
        go_wp2
        go_roundg (gk - 1)
        case measure => omega
        case rel => exact ⟨i + 1, k, n + n2, rfl, by go_num, by omega, g1, by first | rfl | simp [World.drewN] | (simp; done)⟩
      · have hno : Aside0 (p ∉ S) := ⟨fun hm => by
          have hb := GoodT.beg T.out p.size p hm rfl (i + 1) (by omega)
          exact g1 _ (by
            rw [tx_beg, tx_beg, take_snoc hlt, tx_get, List.getD_eq_getElem?_getD, List.getElem?_eq_getElem (by rw [tx_length]; exact hlt)]
            rfl) hb⟩
        clear hnx htb g1
        go_wp2
        go_ret2
        exact ⟨.inr ⟨hno.out, rfl⟩, n + n2, by first | rfl | simp⟩
    · have d1 : decide ((i : Int) < (p.size : Int)) = false := decide_eq_false (by omega)
      have d1' : decide (i < p.size) = false := decide_eq_false hlt
      obtain rfl : i = p.size := by omega
      have hs : sc < sts.length := by rw [T.out.len]; exact (List.getElem?_eq_some_iff.1 hsc.out).1
      have his := trieIs _ _ sc _ (trieLen g sts _ hT)
      rw [decide_eq_true (show (0 : Int) ≤ sc ∧ (sc : Int) < sts.length by omega)] at his
      have hsc2 : Aside0 (S[sc]? = some p) := ⟨by have := hsc.out; rwa [beg_all] at this⟩
      replace his := Aside0.mk his
      clear hsc hT hlt hs
      go_wp2_with fail
      refine his.out.mono ?_
      rintro e w' ⟨rfl, rfl⟩
      go_wp2
      go_ret2
      exact ⟨.inl ⟨sc, hsc2.out, rfl⟩, n, rfl⟩
end Go.Proofs.Ythgjckibnojnpaa
namespace Go.Proofs.Ythgjckibnojnpaa
open Go.RowKit Go.Proofs.YthgjckibnojnpaaW.PrintWords Go.Proofs.YthgjckibnojnpaaW.PrintLast PA Pl

set_option maxHeartbeats 4000000 in
set_option maxRecDepth 20000 in
theorem nothing_true (p : Option Addr) (N : Nat) (s c : Int) (hs : ¬ (0 ≤ s ∧ s < N)) (w : World) (hL : ∀ W, Below w.heap.size w W → Calls Try.prog 44 #[.pointer p] W fun e w' => e = .returned (.int .i64 N) ∧ W = w') :
    Calls Try.prog 57 #[.pointer p, .int .i64 s, .int .u8 c] w fun e w' => e = .returned (.bool true) ∧ Below w.heap.size w w' := by
  have hN := trieNextNo p N s c hs w (hL _ (Below.refl _ _))
  have hA := trieAboveNo p N s hs w (hL _ (Below.refl _ _))
  have hE := trieEndsNo p N s hs w (hL _ (Below.refl _ _))
  have hD := trieDepthNo p N s hs w (hL _ (Below.refl _ _))
  have hP : Calls Try.prog 49 #[.pointer p, .int .i64 s] w fun e w' => e = .returned (.string ⟨#[]⟩) ∧ Below w.heap.size w w' := triePathNo p N s hs w (hL _ (Below.refl _ _))
  have hB : ∀ W, Below w.heap.size w W → Calls Try.prog 54 #[.pointer p, .int .i64 s] W fun e w' => e = .returned (.string ⟨#[]⟩) ∧ W = w' := fun W hb => trieBytesNo p N s hs W (hL W hb)
  replace hN := Aside0.mk hN
  replace hA := Aside0.mk hA
  replace hE := Aside0.mk hE
  replace hD := Aside0.mk hD
  replace hP := Aside0.mk hP
  replace hB := Aside0.mk hB
  clear hL hs
  go_enter Try.func57, Try.ntmps57
  go_wp2_with (first
    | (go_at_call 47; refine hN.out.mono ?_; rintro r w' ⟨rfl, rfl⟩)
    | (go_at_call 46; refine hA.out.mono ?_; rintro r w' ⟨rfl, rfl⟩)
    | (go_at_call 52; refine hE.out.mono ?_; rintro r w' ⟨rfl, rfl⟩)
    | (go_at_call 48; refine hD.out.mono ?_; rintro r w' ⟨rfl, rfl⟩)
    | (go_at_call 49; refine hP.out.mono ?_; rintro r w2 ⟨rfl, hb2⟩; replace hb2 := Aside0.mk hb2)
    | (go_at_call 54; refine (hB.out _ hb2.out).mono ?_; rintro r w' ⟨rfl, rfl⟩))
  go_ret
  exact ⟨rfl, hb2.out⟩

set_option maxHeartbeats 4000000 in
set_option maxRecDepth 20000 in
theorem trieNone_walk (A : Option Addr) (c : Nat) (l : List ByteArray) (s cb : Int) (p : ByteArray) (hps : p.size ≤ 140737488351232) (w : World) (hr : Kd.C Kd.string w A l.length l) (hc : l.length ≤ c) (hl : l.length ≤ 9223372036854775806) :
    Calls Try.prog 9 #[.slice A l.length c, .int .i64 s, .int .u8 cb, .string p] w fun r w' => r = .returned (.bool true) ∧ Below w.heap.size w w' := by
  have hF := fewCall A c l 12 20 w hr hc hl
  cases hfew : few l 12 20 with
  | false =>
    rw [hfew] at hF
    replace hfew := Lib.hid hfew
    clear hr
    go_enter Try.func9, Try.ntmps9
    go_wp2_with (first
      | (go_at_call 15; refine hF.mono ?_; rintro r w' ⟨rfl, n, rfl⟩)
      | (go_at_call 42; refine (awake16 _).mono ?_; rintro r w' ⟨rfl, hb⟩))
    replace hb := Aside0.mk hb
    go_ret
    exact ⟨rfl, (below_drewN' (Below.refl _ _) n).trans hb.out⟩
  | true =>
    rw [hfew] at hF
    by_cases h50 : 50 < p.size
    · have d1 : decide (50 < (p.size : Int)) = true := decide_eq_true (by omega)
      have d1' : decide (50 < p.size) = true := decide_eq_true h50
      replace hfew := Lib.hid hfew
      clear hr h50
      go_enter Try.func9, Try.ntmps9
      go_wp2_with (first
        | (go_at_call 15; refine hF.mono ?_; rintro r w' ⟨rfl, n, rfl⟩)
        | (go_at_call 42; refine (awake16 _).mono ?_; rintro r w' ⟨rfl, hb⟩))
      replace hb := Aside0.mk hb
      go_ret
      exact ⟨rfl, (below_drewN' (Below.refl _ _) n).trans hb.out⟩
    · have d1 : decide (50 < (p.size : Int)) = false := decide_eq_false (by omega)
      have d1' : decide (50 < p.size) = false := decide_eq_false h50
      obtain ⟨hl12, hs20⟩ := few_iff.1 hfew
      replace hfew := Lib.hid hfew
      have hf : Fit l := fun s hs => by have := hs20 s hs; omega
      have hT := theSet_tame l
      have hA := theSet_asc l
      have ht := theSet_tot l
      replace hr := Aside0.mk hr
      replace hA := Aside0.mk hA
      replace hT := Aside0.mk hT
      go_enter Try.func9, Try.ntmps9
      go_wp2_with (go_at_call 15; refine hF.mono ?_; rintro r w' ⟨rfl, n, rfl⟩)
      have hr0 : Kd.C Kd.string (w.drewN n) A l.length l := Kd.C_below hr.out (below_drewN' (Below.refl _ _) n)
      have hb0 : Below w.heap.size w (w.drewN n) := below_drewN' (Below.refl _ _) n
      refine (newSet A c l _ hr0 hf).mono ?_
      rintro r w1 ⟨v, rfl, hS, hb1⟩
      have hb01 : Below w.heap.size w w1 := hb0.trans hb1
      have hr1 := Kd.C_below hr0 hb1
      replace hS := Aside0.mk hS
      replace hr1 := Aside0.mk hr1
      replace hb01 := Aside0.mk hb01
      clear hr0 hb1 hb0 hF hr
      go_wp2_with fail
      refine (refSet A c l _ hr1.out hc).mono ?_
      rintro r w2 ⟨v2, rfl, hL, hb2⟩
      have hS2 := Aside0.mk (hS.out.below hb2)
      have hb02 := Aside0.mk (Below.then_ hb01.out hb2)
      replace hL := Aside0.mk hL
      clear hS hb2 hb01 hr1
      generalize newE l = E
      go_wp2_with fail
      refine (trieMade v (theSet l) _ hS2.out hT.out hA.out ht).mono ?_
      rintro r w3 ⟨g, sts, rfl, hTr, hG, hb3⟩
      obtain ⟨A2, c2, rfl, hc2, hC2⟩ := hL.out.below hb3
      have hb03 := Aside0.mk (Below.then_ hb02.out hb3)
      replace hTr := Aside0.mk hTr
      replace hG := Aside0.mk hG
      replace hC2 := Aside0.mk hC2
      clear hb3 hb02 hS2 hL hf hs20
      generalize theSet l = X at *
      go_wp2_with fail
      refine (refStates A2 c2 X _ hC2.out hc2 hT.out).mono ?_
      rintro r w4 ⟨v4, rfl, hSt, hb4⟩
      obtain ⟨A3, c3, rfl, hc3, hC3⟩ := hSt
      have hb04 := Aside0.mk (Below.then_ hb03.out hb4)
      have hTr4 := hTr.out.below hb4
      have hSl := stOf_len X
      have hlen : sts.length = (stOf X).length := hG.out.len
      generalize stOf X = S at *
      have hTW : ∀ W', Below w4.heap.size w4 W' → TrieAt W' g sts := fun W' hb => hTr4.below hb
      have hSW : ∀ W', Below w4.heap.size w4 W' → Kd.C Kd.string W' A3 S.length S := fun W' hb => Kd.C_below hC3 hb
      have hSn : S.length ≤ 16777217 := by omega
      have hfd := trieFind g X S sts hG.out p hps w4 hTr4
      have hNo : ¬ (0 ≤ s ∧ s < (S.length : Int)) → ∀ W', Below w4.heap.size w4 W' → Calls Try.prog 57 #[.pointer (some ⟨g, 0, none⟩), .int .i64 s, .int .u8 cb] W' fun e w' => e = .returned (.bool true) ∧ Below W'.heap.size W' w' := fun hn W' hb =>
        nothing_true _ S.length s cb hn W' (fun W2 hb2 => by
          have := trieLen g sts W2 (hTW W2 (Below.then_ hb hb2))
          rw [hlen] at this
          exact this)
      have hNil : ∀ W', Calls Try.prog 57 #[.pointer none, .int .i64 s, .int .u8 cb] W' fun e w' => e = .returned (.bool true) ∧ Below W'.heap.size W' w' := fun W' => nothing_true none 0 s cb (by omega) W' (fun W2 _ => trieLenNil W2)
      have hFN : ∀ W', Calls Try.prog 56 #[.pointer none, .string p] W' fun e w' => e = .returned (.tuple #[.int .i64 0, .bool false]) ∧ W' = w' := fun W' => trieFindNil p hps W'
      have hLN : ∀ W', Calls Try.prog 44 #[.pointer none] W' fun e w' => e = .returned (.int .i64 0) ∧ W' = w' := fun W' => trieLenNil W'
      replace hSW := Aside0.mk hSW
      replace hNo := Aside0.mk hNo
      replace hNil := Aside0.mk hNil
      replace hFN := Aside0.mk hFN
      replace hLN := Aside0.mk hLN
      clear hTr hTr4 hTW hC2 hC3 hb03 hb4 hSl hlen h50
      have hB := Aside0.mk (Below.refl w4.heap.size w4)
      by_cases hq : p ∈ S
      · obtain ⟨k, hk0, hkq⟩ := List.getElem_of_mem hq
        have hkS : S[k]? = some p := by rw [List.getElem?_eq_getElem hk0, hkq]
        have hfi : ∀ W', Below w4.heap.size w4 W' → Calls Try.prog 51 #[.slice A3 S.length c3, .string p] W' fun e w' => e = .returned (.int .i64 k) ∧ ∃ n, w' = W'.drewN n := fun W' hb => by
          obtain ⟨v, h1, h2⟩ := refFind16 A3 c3 S p W' (hSW.out _ hb) hc3 (by omega)
          rcases h1 with ⟨_, h⟩ | ⟨k', rfl, h4, _⟩
          · exact absurd hq h
          · rw [tree_inj hG.out h4 hkS] at h2
            exact h2
        have hfd2 : Calls Try.prog 56 #[.pointer (some ⟨g, 0, none⟩), .string p] w4 fun e w' => e = .returned (.tuple #[.int .i64 k, .bool true]) ∧ ∃ n, w' = w4.drewN n := hfd.mono fun e w' ⟨h, hw⟩ => ⟨by
          rcases h with ⟨k', h1, rfl⟩ | ⟨h1, _⟩
          · rw [tree_inj hG.out h1 hkS]
          · exact absurd hq h1, hw⟩
        replace hfd2 := Aside0.mk hfd2
        replace hfi := Aside0.mk hfi
        clear hfd hk0 hkq hkS hq
        by_cases hs0 : 0 ≤ s
        · have f1 : decide (0 ≤ s) = true := decide_eq_true hs0
          by_cases hs1 : s < (S.length : Int)
          · have f2 : decide (s < (S.length : Int)) = true := decide_eq_true hs1
            have hNs := hNo
            clear hs0 hs1
            go_wp2_with (first
              | (go_at_call 56; with_reducible refine hfd2.out.mono ?_; rintro r w' ⟨rfl, n1, rfl⟩)
              | (go_at_call 51; with_reducible refine (hfi.out _ (below_drewN' (Below.refl w4.heap.size w4) _)).mono ?_; rintro r w' ⟨rfl, n2, rfl⟩)
              | (go_at_call 56; with_reducible refine (hFN.out _).mono ?_; rintro r w' ⟨rfl, rfl⟩)
              | (go_at_call 44; with_reducible refine (hLN.out _).mono ?_; rintro r w' ⟨rfl, rfl⟩)
              | (go_at_call 57; with_reducible refine (hNil.out _).mono ?_; rintro r w6 ⟨rfl, hb6⟩; replace hB := Aside0.mk (Below.then_ (below_drewN' (Below.refl w4.heap.size w4) _) hb6); clear hb6)
              | (go_at_call 57; with_reducible refine (hNs.out _ hB.out).mono ?_; rintro r w7 ⟨rfl, hb7⟩; replace hB := Aside0.mk (Below.then_ hB.out hb7); clear hb7)
              | (go_at_call 42; refine (awake16 _).mono ?_; rintro r w8 ⟨rfl, hb8⟩; replace hB := Aside0.mk (Below.then_ hB.out hb8); clear hb8))
            go_ret
            exact ⟨rfl, Below.then_ hb04.out hB.out⟩
          · have f2 : decide (s < (S.length : Int)) = false := decide_eq_false hs1
            have hNs := Aside0.mk (hNo.out (fun h => hs1 h.2))
            clear hs0 hs1
            go_wp2_with (first
              | (go_at_call 56; with_reducible refine hfd2.out.mono ?_; rintro r w' ⟨rfl, n1, rfl⟩)
              | (go_at_call 51; with_reducible refine (hfi.out _ (below_drewN' (Below.refl w4.heap.size w4) _)).mono ?_; rintro r w' ⟨rfl, n2, rfl⟩)
              | (go_at_call 56; with_reducible refine (hFN.out _).mono ?_; rintro r w' ⟨rfl, rfl⟩)
              | (go_at_call 44; with_reducible refine (hLN.out _).mono ?_; rintro r w' ⟨rfl, rfl⟩)
              | (go_at_call 57; with_reducible refine (hNil.out _).mono ?_; rintro r w6 ⟨rfl, hb6⟩; replace hB := Aside0.mk (Below.then_ (below_drewN' (Below.refl w4.heap.size w4) _) hb6); clear hb6)
              | (go_at_call 57; with_reducible refine (hNs.out _ hB.out).mono ?_; rintro r w7 ⟨rfl, hb7⟩; replace hB := Aside0.mk (Below.then_ hB.out hb7); clear hb7)
              | (go_at_call 42; refine (awake16 _).mono ?_; rintro r w8 ⟨rfl, hb8⟩; replace hB := Aside0.mk (Below.then_ hB.out hb8); clear hb8))
            go_ret
            exact ⟨rfl, Below.then_ hb04.out hB.out⟩
        · have f1 : decide (0 ≤ s) = false := decide_eq_false hs0
          have hNs := Aside0.mk (hNo.out (fun h => hs0 h.1))
          clear hs0
          go_wp2_with (first
            | (go_at_call 56; with_reducible refine hfd2.out.mono ?_; rintro r w' ⟨rfl, n1, rfl⟩)
            | (go_at_call 51; with_reducible refine (hfi.out _ (below_drewN' (Below.refl w4.heap.size w4) _)).mono ?_; rintro r w' ⟨rfl, n2, rfl⟩)
            | (go_at_call 56; with_reducible refine (hFN.out _).mono ?_; rintro r w' ⟨rfl, rfl⟩)
            | (go_at_call 44; with_reducible refine (hLN.out _).mono ?_; rintro r w' ⟨rfl, rfl⟩)
            | (go_at_call 57; with_reducible refine (hNil.out _).mono ?_; rintro r w6 ⟨rfl, hb6⟩; replace hB := Aside0.mk (Below.then_ (below_drewN' (Below.refl w4.heap.size w4) _) hb6); clear hb6)
            | (go_at_call 57; with_reducible refine (hNs.out _ hB.out).mono ?_; rintro r w7 ⟨rfl, hb7⟩; replace hB := Aside0.mk (Below.then_ hB.out hb7); clear hb7)
            | (go_at_call 42; refine (awake16 _).mono ?_; rintro r w8 ⟨rfl, hb8⟩; replace hB := Aside0.mk (Below.then_ hB.out hb8); clear hb8))
          go_ret
          exact ⟨rfl, Below.then_ hb04.out hB.out⟩
      · have hfi : ∀ W', Below w4.heap.size w4 W' → Calls Try.prog 51 #[.slice A3 S.length c3, .string p] W' fun e w' => e = .returned (.int .i64 (-1)) ∧ ∃ n, w' = W'.drewN n := fun W' hb => by
          obtain ⟨v, h1, h2⟩ := refFind16 A3 c3 S p W' (hSW.out _ hb) hc3 (by omega)
          rcases h1 with ⟨rfl, _⟩ | ⟨k', _, h4, _⟩
          · exact h2
          · exact absurd (List.mem_of_getElem? h4) hq
        have hfd2 : Calls Try.prog 56 #[.pointer (some ⟨g, 0, none⟩), .string p] w4 fun e w' => e = .returned (.tuple #[.int .i64 0, .bool false]) ∧ ∃ n, w' = w4.drewN n := hfd.mono fun e w' ⟨h, hw⟩ => ⟨by
          rcases h with ⟨k', h1, _⟩ | ⟨_, rfl⟩
          · exact absurd (List.mem_of_getElem? h1) hq
          · rfl, hw⟩
        replace hfd2 := Aside0.mk hfd2
        replace hfi := Aside0.mk hfi
        clear hfd hq
        by_cases hs0 : 0 ≤ s
        · have f1 : decide (0 ≤ s) = true := decide_eq_true hs0
          by_cases hs1 : s < (S.length : Int)
          · have f2 : decide (s < (S.length : Int)) = true := decide_eq_true hs1
            have hNs := hNo
            clear hs0 hs1
            go_wp2_with (first
              | (go_at_call 56; with_reducible refine hfd2.out.mono ?_; rintro r w' ⟨rfl, n1, rfl⟩)
              | (go_at_call 51; with_reducible refine (hfi.out _ (below_drewN' (Below.refl w4.heap.size w4) _)).mono ?_; rintro r w' ⟨rfl, n2, rfl⟩)
              | (go_at_call 56; with_reducible refine (hFN.out _).mono ?_; rintro r w' ⟨rfl, rfl⟩)
              | (go_at_call 44; with_reducible refine (hLN.out _).mono ?_; rintro r w' ⟨rfl, rfl⟩)
              | (go_at_call 57; with_reducible refine (hNil.out _).mono ?_; rintro r w6 ⟨rfl, hb6⟩; replace hB := Aside0.mk (Below.then_ (below_drewN' (Below.refl w4.heap.size w4) _) hb6); clear hb6)
              | (go_at_call 57; with_reducible refine (hNs.out _ hB.out).mono ?_; rintro r w7 ⟨rfl, hb7⟩; replace hB := Aside0.mk (Below.then_ hB.out hb7); clear hb7)
              | (go_at_call 42; refine (awake16 _).mono ?_; rintro r w8 ⟨rfl, hb8⟩; replace hB := Aside0.mk (Below.then_ hB.out hb8); clear hb8))
            go_ret
            exact ⟨rfl, Below.then_ hb04.out hB.out⟩
          · have f2 : decide (s < (S.length : Int)) = false := decide_eq_false hs1
            have hNs := Aside0.mk (hNo.out (fun h => hs1 h.2))
            clear hs0 hs1
            go_wp2_with (first
              | (go_at_call 56; with_reducible refine hfd2.out.mono ?_; rintro r w' ⟨rfl, n1, rfl⟩)
              | (go_at_call 51; with_reducible refine (hfi.out _ (below_drewN' (Below.refl w4.heap.size w4) _)).mono ?_; rintro r w' ⟨rfl, n2, rfl⟩)
              | (go_at_call 56; with_reducible refine (hFN.out _).mono ?_; rintro r w' ⟨rfl, rfl⟩)
              | (go_at_call 44; with_reducible refine (hLN.out _).mono ?_; rintro r w' ⟨rfl, rfl⟩)
              | (go_at_call 57; with_reducible refine (hNil.out _).mono ?_; rintro r w6 ⟨rfl, hb6⟩; replace hB := Aside0.mk (Below.then_ (below_drewN' (Below.refl w4.heap.size w4) _) hb6); clear hb6)
              | (go_at_call 57; with_reducible refine (hNs.out _ hB.out).mono ?_; rintro r w7 ⟨rfl, hb7⟩; replace hB := Aside0.mk (Below.then_ hB.out hb7); clear hb7)
              | (go_at_call 42; refine (awake16 _).mono ?_; rintro r w8 ⟨rfl, hb8⟩; replace hB := Aside0.mk (Below.then_ hB.out hb8); clear hb8))
            go_ret
            exact ⟨rfl, Below.then_ hb04.out hB.out⟩
        · have f1 : decide (0 ≤ s) = false := decide_eq_false hs0
          have hNs := Aside0.mk (hNo.out (fun h => hs0 h.1))
          clear hs0
          go_wp2_with (first
            | (go_at_call 56; with_reducible refine hfd2.out.mono ?_; rintro r w' ⟨rfl, n1, rfl⟩)
            | (go_at_call 51; with_reducible refine (hfi.out _ (below_drewN' (Below.refl w4.heap.size w4) _)).mono ?_; rintro r w' ⟨rfl, n2, rfl⟩)
            | (go_at_call 56; with_reducible refine (hFN.out _).mono ?_; rintro r w' ⟨rfl, rfl⟩)
            | (go_at_call 44; with_reducible refine (hLN.out _).mono ?_; rintro r w' ⟨rfl, rfl⟩)
            | (go_at_call 57; with_reducible refine (hNil.out _).mono ?_; rintro r w6 ⟨rfl, hb6⟩; replace hB := Aside0.mk (Below.then_ (below_drewN' (Below.refl w4.heap.size w4) _) hb6); clear hb6)
            | (go_at_call 57; with_reducible refine (hNs.out _ hB.out).mono ?_; rintro r w7 ⟨rfl, hb7⟩; replace hB := Aside0.mk (Below.then_ hB.out hb7); clear hb7)
            | (go_at_call 42; refine (awake16 _).mono ?_; rintro r w8 ⟨rfl, hb8⟩; replace hB := Aside0.mk (Below.then_ hB.out hb8); clear hb8))
          go_ret
          exact ⟨rfl, Below.then_ hb04.out hB.out⟩
theorem trieNone_row (A : Option Addr) (c : Nat) (l : List ByteArray) (s b : Int) (p : ByteArray) (w : World) (hr : Kd.C Kd.string w A l.length l) (hc : l.length ≤ c) (hl : l.length * 16 ≤ 140737488351232) (hs : (Lit.int .i64 s).wf = true) (hb : (Lit.int .u8 b).wf = true) (hp : p.size ≤ 140737488351232) :
    Calls Try.prog 9 #[.slice A l.length c, .int .i64 s, .int .u8 b, .string p] w fun r w' => r = .returned (.bool true) ∧ Below w.heap.size w w' := trieNone_walk A c l s b p hp w hr hc (by omega)
end Go.Proofs.Ythgjckibnojnpaa
