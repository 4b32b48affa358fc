/- The statement TrieAbove: its walk. The states of the trie, as the reference tells them. The trie's Bytes and Find are walked. The reference's Bytes of layer 16 is walked. -/
import Derived.Test.YthgjckibnojnpaaLaw16
import Derived.Deep.LoopGhost
import Derived.Deep.DeepCutAuto
import Derived.BigQuiet
import Derived.Test.YthgjckibnojnpaaKit
import Derived.Test.YthgjckibnojnpaaTrieP
import Derived.Test.YthgjckibnojnpaaPAJuratref16States
import Derived.Test.YthgjckibnojnpaaPAJuratref16Find
import Derived.Test.YthgjckibnojnpaaPAJuratref10Find
import Derived.Test.YthgjckibnojnpaaTrieX
import Derived.Test.YthgjckibnojnpaaBuild
set_option linter.unusedVariables false
set_option linter.unusedSimpArgs false
namespace Go.Proofs.Ythgjckibnojnpaa
open Go.RowKit Go.Proofs.YthgjckibnojnpaaW.PrintWords Go.Proofs.YthgjckibnojnpaaW.PrintLast PA Pl

theorem tx_app (a b : ByteArray) : tx (a ++ b) = tx a ++ tx b := by
  simp [tx]
theorem strOf_one (b : UInt8) : tx (strOfNums [(b.toNat : Int)]) = [b] := by
  show (strOfNums [(b.toNat : Int)]).data.toList = _
  rw [strOfNums_data]
  simp
/-- What is above a state. -/
theorem above_is {xs S : List ByteArray} {sts : List TS} (T : GoodT xs S sts) {g s : Nat} (h0 : 0 < s) (hs : s < sts.length) (w : World) (h : TrieAt w g sts) :
    ∃ (a : Nat) (b : UInt8) (p q : ByteArray), a < s ∧ S[s]? = some p ∧ S[a]? = some q ∧ p = q ++ strOfNums [(b.toNat : Int)] ∧ p.size = q.size + 1 ∧ tx p = tx q ++ [b] ∧
      Calls Try.prog 46 #[.pointer (some ⟨g, 0, none⟩), .int .i64 s] w fun e w' => e = .returned (.tuple #[.int .i64 a, .int .u8 (b.toNat : Int), .bool true]) ∧ ∃ n, w' = w.drewN n := by
  obtain ⟨t, p, h1, h2, h3⟩ := GoodT.at_ T hs
  obtain ⟨a, q, b, u1, u2, u3, u4, u5⟩ := T.up s t p h0 h1 h2
  refine ⟨a, b, p, q, u1, h2, u3, tx_inj (by rw [tx_app, strOf_one, u4]), ?_, u4, ?_⟩
  · have := congrArg List.length u4
    rw [List.length_append, tx_length, tx_length, List.length_singleton] at this
    exact this
  · have e : sts[s] = t := by rw [List.getElem?_eq_getElem hs] at h1; injection h1
    have := trieAbove g sts s h0 hs w h
    rw [e, u2, u5] at this
    exact this
theorem depth_is {xs S : List ByteArray} {sts : List TS} (T : GoodT xs S sts) {g s : Nat} {p : ByteArray} (hp : S[s]? = some p) (w : World) (h : TrieAt w g sts) :
    Calls Try.prog 48 #[.pointer (some ⟨g, 0, none⟩), .int .i64 s] w fun e w' => e = .returned (.int .i64 p.size) ∧ w = w' := by
  have hs : s < sts.length := by rw [T.len]; exact (List.getElem?_eq_some_iff.1 hp).1
  have := trieDepth g sts s hs w h
  rw [T.depth s _ p (List.getElem?_eq_getElem hs) hp] at this
  exact this

set_option maxHeartbeats 4000000 in
set_option maxRecDepth 20000 in
theorem trieAbove_walk (A : Option Addr) (c : Nat) (l : List ByteArray) (w : World) (hr : Kd.C Kd.string w A l.length l) (hc : l.length ≤ c) (hl : l.length ≤ 9223372036854775806) :
    Calls Try.prog 7 #[.slice A l.length c] w fun r w' => r = .returned (.bool true) ∧ Below w.heap.size w w' := by
  have hF := fewCall A c l 12 20 w hr hc hl
  cases hfew : few l 12 20 with
  | false =>
    rw [hfew] at hF
    replace hfew := Lib.hid hfew
    clear hr
    go_enter Try.func7, Try.ntmps7
    go_wp2_with (first
      | (go_at_call 15; refine hF.mono ?_; rintro r w' ⟨rfl, n, rfl⟩)
      | (go_at_call 42; refine (awake16 _).mono ?_; rintro r w' ⟨rfl, hb⟩))
    replace hb := Aside0.mk hb
    go_ret
    exact ⟨rfl, (below_drewN' (Below.refl _ _) n).trans hb.out⟩
  | true =>
    rw [hfew] at hF
    obtain ⟨hl12, hs20⟩ := few_iff.1 hfew
    replace hfew := Lib.hid hfew
    have hf : Fit l := fun s hs => by have := hs20 s hs; omega
    have hT := theSet_tame l
    have hA := theSet_asc l
    have ht := theSet_tot l
    replace hr := Aside0.mk hr
    replace hA := Aside0.mk hA
    replace hT := Aside0.mk hT
    go_enter Try.func7, Try.ntmps7
    go_wp2_with (go_at_call 15; refine hF.mono ?_; rintro r w' ⟨rfl, n, rfl⟩)
    have hr0 : Kd.C Kd.string (w.drewN n) A l.length l := Kd.C_below hr.out (below_drewN' (Below.refl _ _) n)
    have hb0 : Below w.heap.size w (w.drewN n) := below_drewN' (Below.refl _ _) n
    refine (newSet A c l _ hr0 hf).mono ?_
    rintro r w1 ⟨v, rfl, hS, hb1⟩
    have hb01 : Below w.heap.size w w1 := hb0.trans hb1
    replace hS := Aside0.mk hS
    replace hb01 := Aside0.mk hb01
    clear hr0 hb1 hb0 hF hr
    generalize newE l = E
    go_wp2_with fail
    refine (trieMade v (theSet l) _ hS.out hT.out hA.out ht).mono ?_
    rintro r w2 ⟨g, sts, rfl, hTr, hG, hb2⟩
    have hS2 := Aside0.mk (hS.out.below hb2)
    have hb02 := Aside0.mk (Below.then_ hb01.out hb2)
    have htt := tot_total (theSet l)
    have hsl := stOf_len (theSet l)
    rw [← hG.len] at hsl
    have hpos := GoodT.pos hG
    clear hS hb2 hb01 hf hs20
    generalize hX : theSet l = X at *
    clear hX
    have hL := trieLen g sts w2 hTr
    have htl := setTotal v X w2 hS2.out
    rw [← htt] at htl
    replace hTr := Aside0.mk hTr
    replace hG := Aside0.mk hG
    replace hL := Aside0.mk hL
    replace htl := Aside0.mk htl
    clear htt
    generalize tot X = TT at *
    have d1 : decide ((sts.length : Int) < 1) = false := by simp; omega
    have d1' : decide (sts.length < 1) = false := decide_eq_false (by omega)
    have d2 : decide ((sts.length : Int) > (TT : Int) + 1) = false := by simp; omega
    have d2' : decide ((TT : Int) + 1 < (sts.length : Int)) = false := by simp; omega
    go_wp2_with (first
      | (go_at_call 44; refine hL.out.mono ?_; rintro r w' ⟨rfl, rfl⟩)
      | (go_at_call 45; refine htl.out.mono ?_; rintro r w' ⟨rfl, rfl⟩))
    clear hL htl hS2 d1 d1' d2 d2'
    have hB := Aside0.mk (Below.refl w2.heap.size w2)
    go_loopg [6] sts.length (fun gh s6 wx => ∃ s : Nat, s6 = .int .i64 s ∧ s + gh = sts.length ∧ Aside0 (Below w2.heap.size w2 wx))
    case atStart => exact ⟨0, rfl, by omega, hB⟩
    case round =>
      clear hB
      obtain ⟨s, rfl, hgk, hB⟩ := hrel
      rename World => W3
      have hTw := hTr.out.below hB.out
      have hL := trieLen g sts W3 hTw
      replace hL := Aside0.mk hL
      by_cases hlt : s < sts.length
      · have e1 : decide ((s : Int) < (sts.length : Int)) = true := decide_eq_true (by omega)
        have e1' : decide (s < sts.length) = true := decide_eq_true hlt
        have hbig : sts.length ≤ 16777217 := hTw.len
        by_cases h0 : s = 0
        · subst h0
          have hab := trieAboveRoot g sts hpos W3 hTw
          replace hab := Aside0.mk hab
          clear hTw
          go_wp2_with (first
            | (go_at_call 44; refine hL.out.mono ?_; rintro r w' ⟨rfl, rfl⟩)
            | (go_at_call 46; refine hab.out.mono ?_; rintro r w' ⟨rfl, rfl⟩))
          go_roundg (gk - 1)
          case measure => omega
          case rel => exact ⟨1, rfl, by omega, hB⟩
        · obtain ⟨a, b, p, q, ha, hp, hq, hpq, hsz, htx, hab⟩ := above_is hG.out (by omega : 0 < s) hlt W3 hTw
          have hps := hG.out.small s p hp
          have hnx : ∀ W', Below W3.heap.size W3 W' → Calls Try.prog 47 #[.pointer (some ⟨g, 0, none⟩), .int .i64 a, .int .u8 (b.toNat : Int)] W' fun e w' => e = .returned (.tuple #[.int .i64 s, .bool true]) ∧ ∃ n, w' = W'.drewN n := fun W' hb => by
            refine (trieNextS g X _ sts hG.out a q hq b W' (hTw.below hb)).mono ?_
            rintro e w' ⟨he, hw⟩
            refine ⟨?_, hw⟩
            rcases he with ⟨k, q2, g1, g2, rfl⟩ | ⟨g1, rfl⟩
            · have : k = s := tree_inj hG.out g1 (by rw [hp]; congr 1; exact tx_inj (htx.trans g2.symm))
              rw [this]
            · exact absurd (List.mem_of_getElem? hp) (g1 p htx)
          have hD1 : ∀ W', Below W3.heap.size W3 W' → Calls Try.prog 48 #[.pointer (some ⟨g, 0, none⟩), .int .i64 s] W' fun e w' => e = .returned (.int .i64 ((q.size : Int) + 1)) ∧ W' = w' := fun W' hb => by
            have := depth_is hG.out hp W' (hTw.below hb)
            rw [hsz] at this
            exact this
          have hD2 : ∀ W', Below W3.heap.size W3 W' → Calls Try.prog 48 #[.pointer (some ⟨g, 0, none⟩), .int .i64 a] W' fun e w' => e = .returned (.int .i64 q.size) ∧ W' = w' := fun W' hb => depth_is hG.out hq W' (hTw.below hb)
          have hP1 : ∀ W', Below W3.heap.size W3 W' → Calls Try.prog 49 #[.pointer (some ⟨g, 0, none⟩), .int .i64 s] W' fun e w' => e = .returned (.string p) ∧ Below W'.heap.size W' w' := fun W' hb => triePath g X _ sts hG.out s p hp W' (hTw.below hb)
          have hP2 : ∀ W', Below W3.heap.size W3 W' → Calls Try.prog 49 #[.pointer (some ⟨g, 0, none⟩), .int .i64 a] W' fun e w' => e = .returned (.string q) ∧ Below W'.heap.size W' w' := fun W' hb => triePath g X _ sts hG.out a q hq W' (hTw.below hb)
          have hq2 : q.size ≤ 16777217 := by omega
          replace hab := Aside0.mk hab
          replace hnx := Aside0.mk hnx
          replace hD1 := Aside0.mk hD1
          replace hD2 := Aside0.mk hD2
          replace hP1 := Aside0.mk hP1
          replace hP2 := Aside0.mk hP2
          clear hp hq htx hsz hps hTw
          have hcat : (9223372036854775807 < q.size + (strOfNums [(b.toNat : Int)]).size) = False := eq_false (by rw [strOfNums_size]; simp; omega)
          generalize hcs : strOfNums [(b.toNat : Int)] = cs at hpq hcat
          subst hpq
          generalize q.size = d at hq2 hD1 hD2
          have hbI : 0 ≤ (b.toNat : Int) ∧ (b.toNat : Int) < 256 := ⟨by omega, by have := UInt8.toNat_lt b; omega⟩
          generalize (b.toNat : Int) = cI at *
          replace hcs := Lib.hid hcs
          have y1 : (s == 0) = false := by simpa using h0
          have y2 : ((s : Int) == 0) = false := by simp; omega
          have y3 : decide (0 < (s : Int)) = true := decide_eq_true (by omega)
          have y3' : decide (0 < s) = true := decide_eq_true (by omega)
          have y4 : decide ((a : Int) < 0) = false := decide_eq_false (by omega)
          have y5 : decide ((s : Int) ≤ (a : Int)) = false := decide_eq_false (by omega)
          have y5' : decide (s ≤ a) = false := decide_eq_false (by omega)
          have hB3 := Aside0.mk (Below.refl W3.heap.size W3)
          replace h0 := Aside0.mk h0
          go_wp2_with (first
            | (go_at_call 44; refine hL.out.mono ?_; rintro r w' ⟨rfl, rfl⟩)
            | (go_at_call 46; refine hab.out.mono ?_; rintro r w' ⟨rfl, n1, rfl⟩; replace hB3 := Aside0.mk (below_drewN' hB3.out n1))
            | (go_at_call 47; refine (hnx.out _ hB3.out).mono ?_; rintro r w' ⟨rfl, n2, rfl⟩; replace hB3 := Aside0.mk (below_drewN' hB3.out n2)))
          have hB4 : Aside0 (Below W3.heap.size W3 (W3.drewN (n1 + n2)).drew) := ⟨(below_drewN' (Below.refl _ _) (n1 + n2)).drew⟩
          clear hB3 hab hnx hL e1 e1' y1 y2 y3 y3'
          have hwd : wrap64 ((d : Int) + 1) = (d : Int) + 1 := wrap_in (by omega) (by omega)
          refine start_ (n := 39) (S := fun w' => Aside0 (Below W3.heap.size W3 w')) (ds := []) #[false, false, false, false, false, false, false, false, false, false, false, false, false, false, false, false, false, false, false, false, false, false, false, false, false, false, false, false, false, false, false, false, false, false, false, false, false, false, false] (by kernel_rfl) rfl rfl (hB4) (fun hHeld => ?_)
          clear hB4
          generalize (W3.drewN (n1 + n2)).drew = W5 at hHeld ⊢
          refine pure_ (i := 0) (N := some 60) (v := ?_) (a' := ?_) #[true, false, false, false, false, false, false, false, false, false, false, false, false, false, false, false, false, false, false, false, false, false, false, false, false, false, false, false, false, false, false, false, false, false, false, false, false, false, false] rfl rfl (by kernel_rfl) (fun _ _ _ h => h) (Or.inl ⟨by rfl, ?_⟩) ?_ ?_
          rotate_left
          · intro w'
            go_simp
            with_reducible rfl
          rotate_left
          · simp only [Act.put, List.setIfInBounds_toArray, List.set_cons_zero, List.set_cons_succ, i64_w, i32_w]
            rfl
          refine pure_ (i := 1) (N := some 61) (v := ?_) (a' := ?_) #[true, true, false, false, false, false, false, false, false, false, false, false, false, false, false, false, false, false, false, false, false, false, false, false, false, false, false, false, false, false, false, false, false, false, false, false, false, false, false] rfl rfl (by kernel_rfl) (fun _ _ _ h => h) (Or.inl ⟨by rfl, ?_⟩) ?_ ?_
          rotate_left
          · intro w'
            go_simp
            with_reducible rfl
          rotate_left
          · simp only [Act.put, List.setIfInBounds_toArray, List.set_cons_zero, List.set_cons_succ, i64_w, i32_w]
            rfl
          refine pure_ (i := 2) (N := some 62) (v := ?_) (a' := ?_) #[true, true, true, false, false, false, false, false, false, false, false, false, false, false, false, false, false, false, false, false, false, false, false, false, false, false, false, false, false, false, false, false, false, false, false, false, false, false, false] rfl rfl (by kernel_rfl) (fun _ _ _ h => h) (Or.inl ⟨by rfl, ?_⟩) ?_ ?_
          rotate_left
          · intro w'
            go_simp
            with_reducible rfl
          rotate_left
          · simp only [Act.put, List.setIfInBounds_toArray, List.set_cons_zero, List.set_cons_succ, i64_w, i32_w]
            rfl
          refine pure_ (i := 3) (N := some 63) (v := ?_) (a' := ?_) #[true, true, true, true, false, false, false, false, false, false, false, false, false, false, false, false, false, false, false, false, false, false, false, false, false, false, false, false, false, false, false, false, false, false, false, false, false, false, false] rfl rfl (by kernel_rfl) (fun _ _ _ h => h) (Or.inl ⟨by rfl, ?_⟩) ?_ ?_
          rotate_left
          · intro w'
            go_simp
            with_reducible rfl
          rotate_left
          · simp only [Act.put, List.setIfInBounds_toArray, List.set_cons_zero, List.set_cons_succ, i64_w, i32_w]
            rfl
          refine pure_ (i := 4) (N := some 64) (v := ?_) (a' := ?_) #[true, true, true, true, true, false, false, false, false, false, false, false, false, false, false, false, false, false, false, false, false, false, false, false, false, false, false, false, false, false, false, false, false, false, false, false, false, false, false] rfl rfl (by kernel_rfl) (fun _ _ _ h => h) (Or.inl ⟨by rfl, ?_⟩) ?_ ?_
          rotate_left
          · intro w'
            go_simp
            with_reducible rfl
          rotate_left
          · simp only [Act.put, List.setIfInBounds_toArray, List.set_cons_zero, List.set_cons_succ, i64_w, i32_w]
            rfl
          refine pure_ (i := 5) (N := some 65) (v := ?_) (a' := ?_) #[true, true, true, true, true, true, false, false, false, false, false, false, false, false, false, false, false, false, false, false, false, false, false, false, false, false, false, false, false, false, false, false, false, false, false, false, false, false, false] rfl rfl (by kernel_rfl) (fun _ _ _ h => h) (Or.inl ⟨by rfl, ?_⟩) ?_ ?_
          rotate_left
          · intro w'
            go_simp
            with_reducible rfl
          rotate_left
          · simp only [Act.put, List.setIfInBounds_toArray, List.set_cons_zero, List.set_cons_succ, i64_w, i32_w]
            rfl
          refine pure_ (i := 6) (N := some 66) (v := ?_) (a' := ?_) #[true, true, true, true, true, true, true, false, false, false, false, false, false, false, false, false, false, false, false, false, false, false, false, false, false, false, false, false, false, false, false, false, false, false, false, false, false, false, false] rfl rfl (by kernel_rfl) (fun _ _ _ h => h) (Or.inl ⟨by rfl, ?_⟩) ?_ ?_
          rotate_left
          · intro w'
            go_simp
            with_reducible rfl
          rotate_left
          · simp only [Act.put, List.setIfInBounds_toArray, List.set_cons_zero, List.set_cons_succ, i64_w, i32_w]
            rfl
          refine pure_ (i := 7) (N := some 67) (v := ?_) (a' := ?_) #[true, true, true, true, true, true, true, true, false, false, false, false, false, false, false, false, false, false, false, false, false, false, false, false, false, false, false, false, false, false, false, false, false, false, false, false, false, false, false] rfl rfl (by kernel_rfl) (fun _ _ _ h => h) (Or.inl ⟨by rfl, ?_⟩) ?_ ?_
          rotate_left
          · intro w'
            go_simp
            with_reducible rfl
          rotate_left
          · simp only [Act.put, List.setIfInBounds_toArray, List.set_cons_zero, List.set_cons_succ, i64_w, i32_w]
            rfl
          refine pure_ (i := 8) (N := some 68) (v := ?_) (a' := ?_) #[true, true, true, true, true, true, true, true, true, false, false, false, false, false, false, false, false, false, false, false, false, false, false, false, false, false, false, false, false, false, false, false, false, false, false, false, false, false, false] rfl rfl (by kernel_rfl) (fun _ _ _ h => h) (Or.inl ⟨by rfl, ?_⟩) ?_ ?_
          rotate_left
          · intro w'
            go_simp
            with_reducible rfl
          rotate_left
          · simp only [Act.put, List.setIfInBounds_toArray, List.set_cons_zero, List.set_cons_succ, i64_w, i32_w]
            rfl
          refine pure_ (i := 9) (N := some 69) (v := ?_) (a' := ?_) #[true, true, true, true, true, true, true, true, true, true, false, false, false, false, false, false, false, false, false, false, false, false, false, false, false, false, false, false, false, false, false, false, false, false, false, false, false, false, false] rfl rfl (by kernel_rfl) (fun _ _ _ h => h) (Or.inl ⟨by rfl, ?_⟩) ?_ ?_
          rotate_left
          · intro w'
            go_simp
            with_reducible rfl
          rotate_left
          · simp only [Act.put, List.setIfInBounds_toArray, List.set_cons_zero, List.set_cons_succ, i64_w, i32_w]
            rfl
          refine pure_ (i := 10) (N := some 70) (v := ?_) (a' := ?_) #[true, true, true, true, true, true, true, true, true, true, true, false, false, false, false, false, false, false, false, false, false, false, false, false, false, false, false, false, false, false, false, false, false, false, false, false, false, false, false] rfl rfl (by kernel_rfl) (fun _ _ _ h => h) (Or.inl ⟨by rfl, ?_⟩) ?_ ?_
          rotate_left
          · intro w'
            go_simp
            with_reducible rfl
          rotate_left
          · simp only [Act.put, List.setIfInBounds_toArray, List.set_cons_zero, List.set_cons_succ, i64_w, i32_w]
            rfl
          refine pure_ (i := 11) (N := some 71) (v := ?_) (a' := ?_) #[true, true, true, true, true, true, true, true, true, true, true, true, false, false, false, false, false, false, false, false, false, false, false, false, false, false, false, false, false, false, false, false, false, false, false, false, false, false, false] rfl rfl (by kernel_rfl) (fun _ _ _ h => h) (Or.inl ⟨by rfl, ?_⟩) ?_ ?_
          rotate_left
          · intro w'
            go_simp
            with_reducible rfl
          rotate_left
          · simp only [Act.put, List.setIfInBounds_toArray, List.set_cons_zero, List.set_cons_succ, i64_w, i32_w]
            rfl
          refine pure_ (i := 12) (N := some 72) (v := ?_) (a' := ?_) #[true, true, true, true, true, true, true, true, true, true, true, true, true, false, false, false, false, false, false, false, false, false, false, false, false, false, false, false, false, false, false, false, false, false, false, false, false, false, false] rfl rfl (by kernel_rfl) (fun _ _ _ h => h) (Or.inl ⟨by rfl, ?_⟩) ?_ ?_
          rotate_left
          · intro w'
            go_simp
            with_reducible rfl
          rotate_left
          · simp only [Act.put, List.setIfInBounds_toArray, List.set_cons_zero, List.set_cons_succ, i64_w, i32_w]
            rfl
          refine pure_ (i := 13) (N := some 73) (v := ?_) (a' := ?_) #[true, true, true, true, true, true, true, true, true, true, true, true, true, true, false, false, false, false, false, false, false, false, false, false, false, false, false, false, false, false, false, false, false, false, false, false, false, false, false] rfl rfl (by kernel_rfl) (fun _ _ _ h => h) (Or.inl ⟨by rfl, ?_⟩) ?_ ?_
          rotate_left
          · intro w'
            go_simp
            with_reducible rfl
          rotate_left
          · simp only [Act.put, List.setIfInBounds_toArray, List.set_cons_zero, List.set_cons_succ, i64_w, i32_w]
            rfl
          refine pure_ (i := 14) (N := some 74) (v := ?_) (a' := ?_) #[true, true, true, true, true, true, true, true, true, true, true, true, true, true, true, false, false, false, false, false, false, false, false, false, false, false, false, false, false, false, false, false, false, false, false, false, false, false, false] rfl rfl (by kernel_rfl) (fun _ _ _ h => h) (Or.inl ⟨by rfl, ?_⟩) ?_ ?_
          rotate_left
          · intro w'
            go_simp
            with_reducible rfl
          rotate_left
          · simp only [Act.put, List.setIfInBounds_toArray, List.set_cons_zero, List.set_cons_succ, i64_w, i32_w]
            rfl
          refine pure_ (i := 15) (N := some 75) (v := ?_) (a' := ?_) #[true, true, true, true, true, true, true, true, true, true, true, true, true, true, true, true, false, false, false, false, false, false, false, false, false, false, false, false, false, false, false, false, false, false, false, false, false, false, false] rfl rfl (by kernel_rfl) (fun _ _ _ h => h) (Or.inl ⟨by rfl, ?_⟩) ?_ ?_
          rotate_left
          · intro w'
            go_simp
            with_reducible rfl
          rotate_left
          · simp only [Act.put, List.setIfInBounds_toArray, List.set_cons_zero, List.set_cons_succ, i64_w, i32_w]
            rfl
          refine pure_ (i := 16) (N := some 76) (v := ?_) (a' := ?_) #[true, true, true, true, true, true, true, true, true, true, true, true, true, true, true, true, true, false, false, false, false, false, false, false, false, false, false, false, false, false, false, false, false, false, false, false, false, false, false] rfl rfl (by kernel_rfl) (fun _ _ _ h => h) (Or.inl ⟨by rfl, ?_⟩) ?_ ?_
          rotate_left
          · intro w'
            go_simp
            with_reducible rfl
          rotate_left
          · simp only [Act.put, List.setIfInBounds_toArray, List.set_cons_zero, List.set_cons_succ, i64_w, i32_w]
            rfl
          refine pure_ (i := 17) (N := some 77) (v := ?_) (a' := ?_) #[true, true, true, true, true, true, true, true, true, true, true, true, true, true, true, true, true, true, false, false, false, false, false, false, false, false, false, false, false, false, false, false, false, false, false, false, false, false, false] rfl rfl (by kernel_rfl) (fun _ _ _ h => h) (Or.inl ⟨by rfl, ?_⟩) ?_ ?_
          rotate_left
          · intro w'
            go_simp
            with_reducible rfl
          rotate_left
          · simp only [Act.put, List.setIfInBounds_toArray, List.set_cons_zero, List.set_cons_succ, i64_w, i32_w]
            rfl
          refine pure_ (i := 18) (N := some 78) (v := ?_) (a' := ?_) #[true, true, true, true, true, true, true, true, true, true, true, true, true, true, true, true, true, true, true, false, false, false, false, false, false, false, false, false, false, false, false, false, false, false, false, false, false, false, false] rfl rfl (by kernel_rfl) (fun _ _ _ h => h) (Or.inl ⟨by rfl, ?_⟩) ?_ ?_
          rotate_left
          · intro w'
            go_simp
            with_reducible rfl
          rotate_left
          · simp only [Act.put, List.setIfInBounds_toArray, List.set_cons_zero, List.set_cons_succ, i64_w, i32_w]
            rfl
          refine pure_ (i := 20) (N := some 80) (v := ?_) (a' := ?_) #[true, true, true, true, true, true, true, true, true, true, true, true, true, true, true, true, true, true, true, false, true, false, false, false, false, false, false, false, false, false, false, false, false, false, false, false, false, false, false] rfl rfl (by kernel_rfl) (fun _ _ _ h => h) (Or.inl ⟨by rfl, ?_⟩) ?_ ?_
          rotate_left
          · intro w'
            go_simp
            with_reducible rfl
          rotate_left
          · simp only [Act.put, List.setIfInBounds_toArray, List.set_cons_zero, List.set_cons_succ, i64_w, i32_w]
            rfl
          refine pure_ (i := 21) (N := some 81) (v := ?_) (a' := ?_) #[true, true, true, true, true, true, true, true, true, true, true, true, true, true, true, true, true, true, true, false, true, true, false, false, false, false, false, false, false, false, false, false, false, false, false, false, false, false, false] rfl rfl (by kernel_rfl) (fun _ _ _ h => h) (Or.inl ⟨by rfl, ?_⟩) ?_ ?_
          rotate_left
          · intro w'
            go_simp
            with_reducible rfl
          rotate_left
          · simp only [Act.put, List.setIfInBounds_toArray, List.set_cons_zero, List.set_cons_succ, i64_w, i32_w]
            rfl
          refine one_ (i := 19) (N := some 79) #[true, true, true, true, true, true, true, true, true, true, true, true, true, true, true, true, true, true, true, true, true, true, false, false, false, false, false, false, false, false, false, false, false, false, false, false, false, false, false] rfl rfl (by kernel_rfl) (by decide) (fun K hK => ?_)
          refine goes_ Try.func48 (by kernel_rfl) rfl #[.pointer (some ⟨g, 0, none⟩), .int .i64 s] (by rfl) rfl rfl (by simp only [List.map_toArray, List.map_cons, List.map_nil]; rfl) ?_
          with_reducible refine (hD1.out _ hHeld.out).mono ?_
          rintro e w3 ⟨rfl, rfl⟩
          refine ⟨_, rfl, ?_⟩
          refine hK.out _ _ (hHeld) (fun hHeld => ?_)
          clear hK K
          refine norm_ (a' := ?_) ?_ ?_
          rotate_left
          · show Act.put _ (some 79) _ = _
            simp only [Act.put, List.setIfInBounds_toArray, List.set_cons_zero, List.set_cons_succ, i64_w, i32_w]
            rfl
          refine one_ (i := 22) (N := some 82) #[true, true, true, true, true, true, true, true, true, true, true, true, true, true, true, true, true, true, true, true, true, true, true, false, false, false, false, false, false, false, false, false, false, false, false, false, false, false, false] rfl rfl (by kernel_rfl) (by decide) (fun K hK => ?_)
          refine goes_ Try.func48 (by kernel_rfl) rfl #[.pointer (some ⟨g, 0, none⟩), .int .i64 a] (by rfl) rfl rfl (by simp only [List.map_toArray, List.map_cons, List.map_nil]; rfl) ?_
          with_reducible refine (hD2.out _ hHeld.out).mono ?_
          rintro e w3 ⟨rfl, rfl⟩
          refine ⟨_, rfl, ?_⟩
          refine hK.out _ _ (hHeld) (fun hHeld => ?_)
          clear hK K
          refine norm_ (a' := ?_) ?_ ?_
          rotate_left
          · show Act.put _ (some 82) _ = _
            simp only [Act.put, List.setIfInBounds_toArray, List.set_cons_zero, List.set_cons_succ, i64_w, i32_w]
            rfl
          refine pure_ (i := 23) (N := some 83) (v := ?_) (a' := ?_) #[true, true, true, true, true, true, true, true, true, true, true, true, true, true, true, true, true, true, true, true, true, true, true, true, false, false, false, false, false, false, false, false, false, false, false, false, false, false, false] rfl rfl (by kernel_rfl) (fun _ _ _ h => h) (Or.inl ⟨by rfl, ?_⟩) ?_ ?_
          rotate_left
          · intro w'
            go_simp
            with_reducible rfl
          rotate_left
          · simp only [Act.put, List.setIfInBounds_toArray, List.set_cons_zero, List.set_cons_succ, i64_w, i32_w]
            rfl
          refine pure_ (i := 24) (N := some 84) (v := ?_) (a' := ?_) #[true, true, true, true, true, true, true, true, true, true, true, true, true, true, true, true, true, true, true, true, true, true, true, true, true, false, false, false, false, false, false, false, false, false, false, false, false, false, false] rfl rfl (by kernel_rfl) (fun _ _ _ h => h) (Or.inl ⟨by rfl, ?_⟩) ?_ ?_
          rotate_left
          · intro w'
            go_simp
            with_reducible rfl
          rotate_left
          · simp only [Act.put, List.setIfInBounds_toArray, List.set_cons_zero, List.set_cons_succ, i64_w, i32_w]
            rfl
          refine pure_ (i := 25) (N := some 85) (v := ?_) (a' := ?_) #[true, true, true, true, true, true, true, true, true, true, true, true, true, true, true, true, true, true, true, true, true, true, true, true, true, true, false, false, false, false, false, false, false, false, false, false, false, false, false] rfl rfl (by kernel_rfl) (fun _ _ _ h => h) (Or.inl ⟨by rfl, ?_⟩) ?_ ?_
          rotate_left
          · intro w'
            go_simp
            with_reducible rfl
          rotate_left
          · simp only [Act.put, List.setIfInBounds_toArray, List.set_cons_zero, List.set_cons_succ, i64_w, i32_w]
            rfl
          refine pure_ (i := 26) (N := some 86) (v := ?_) (a' := ?_) #[true, true, true, true, true, true, true, true, true, true, true, true, true, true, true, true, true, true, true, true, true, true, true, true, true, true, true, false, false, false, false, false, false, false, false, false, false, false, false] rfl rfl (by kernel_rfl) (fun _ _ _ h => h) (Or.inl ⟨by rfl, ?_⟩) ?_ ?_
          rotate_left
          · intro w'
            go_simp
            with_reducible rfl
          rotate_left
          · simp only [Act.put, List.setIfInBounds_toArray, List.set_cons_zero, List.set_cons_succ, i64_w, i32_w]
            rfl
          refine pure_ (i := 27) (N := some 87) (v := ?_) (a' := ?_) #[true, true, true, true, true, true, true, true, true, true, true, true, true, true, true, true, true, true, true, true, true, true, true, true, true, true, true, true, false, false, false, false, false, false, false, false, false, false, false] rfl rfl (by kernel_rfl) (fun _ _ _ h => h) (Or.inl ⟨by rfl, ?_⟩) ?_ ?_
          rotate_left
          · intro w'
            go_simp
            with_reducible rfl
          rotate_left
          · simp only [Act.put, List.setIfInBounds_toArray, List.set_cons_zero, List.set_cons_succ, i64_w, i32_w]
            rfl
          refine pure_ (i := 28) (N := some 88) (v := ?_) (a' := ?_) #[true, true, true, true, true, true, true, true, true, true, true, true, true, true, true, true, true, true, true, true, true, true, true, true, true, true, true, true, true, false, false, false, false, false, false, false, false, false, false] rfl rfl (by kernel_rfl) (fun _ _ _ h => h) (Or.inl ⟨by rfl, ?_⟩) ?_ ?_
          rotate_left
          · intro w'
            go_simp
            with_reducible rfl
          rotate_left
          · simp only [Act.put, List.setIfInBounds_toArray, List.set_cons_zero, List.set_cons_succ, i64_w, i32_w]
            rfl
          refine pure_ (i := 30) (N := some 90) (v := ?_) (a' := ?_) #[true, true, true, true, true, true, true, true, true, true, true, true, true, true, true, true, true, true, true, true, true, true, true, true, true, true, true, true, true, false, true, false, false, false, false, false, false, false, false] rfl rfl (by kernel_rfl) (fun _ _ _ h => h) (Or.inl ⟨by rfl, ?_⟩) ?_ ?_
          rotate_left
          · intro w'
            go_simp
            with_reducible rfl
          rotate_left
          · simp only [Act.put, List.setIfInBounds_toArray, List.set_cons_zero, List.set_cons_succ, i64_w, i32_w]
            rfl
          refine pure_ (i := 31) (N := some 91) (v := ?_) (a' := ?_) #[true, true, true, true, true, true, true, true, true, true, true, true, true, true, true, true, true, true, true, true, true, true, true, true, true, true, true, true, true, false, true, true, false, false, false, false, false, false, false] rfl rfl (by kernel_rfl) (fun _ _ _ h => h) (Or.inl ⟨by rfl, ?_⟩) ?_ ?_
          rotate_left
          · intro w'
            go_simp
            with_reducible rfl
          rotate_left
          · simp only [Act.put, List.setIfInBounds_toArray, List.set_cons_zero, List.set_cons_succ, i64_w, i32_w]
            rfl
          refine pure_ (i := 33) (N := some 93) (v := ?_) (a' := ?_) #[true, true, true, true, true, true, true, true, true, true, true, true, true, true, true, true, true, true, true, true, true, true, true, true, true, true, true, true, true, false, true, true, false, true, false, false, false, false, false] rfl rfl (by kernel_rfl) (fun _ _ _ h => h) (Or.inl ⟨by rfl, ?_⟩) ?_ ?_
          rotate_left
          · intro w'
            go_simp
            with_reducible rfl
          rotate_left
          · simp only [Act.put, List.setIfInBounds_toArray, List.set_cons_zero, List.set_cons_succ, i64_w, i32_w]
            rfl
          refine join_ (σ := Nat) 3 #[true, true, true, true, true, true, true, true, true, true, true, true, true, true, true, true, true, true, true, true, true, true, true, true, true, true, true, true, true, true, true, true, true, true, true, true, false, false, false] (fun sb => [(89, .string (q ++ cs)), (92, .string q), (94, .slice (some ⟨sb, 0, none⟩) 1 1), (95, .string cs)]) (fun _ w' => Aside0 (Below W3.heap.size W3 w')) ?_ ?_
          rotate_left
          · intro hCont
            refine two_ (i := 29) (j := 34) (Ni := some 89) (Nj := some 94) #[true, true, true, true, true, true, true, true, true, true, true, true, true, true, true, true, true, true, true, true, true, true, true, true, true, true, true, true, true, true, true, true, false, true, false, false, false, false, false] #[true, true, true, true, true, true, true, true, true, true, true, true, true, true, true, true, true, true, true, true, true, true, true, true, true, true, true, true, true, false, true, true, false, true, true, false, false, false, false] rfl rfl rfl rfl (by kernel_rfl) (by decide) (by decide) (fun K hK => ?_) (fun K hK => ?_)
            · skip
              refine goes_ Try.func49 (by kernel_rfl) rfl #[.pointer (some ⟨g, 0, none⟩), .int .i64 s] (by rfl) rfl rfl (by simp only [List.map_toArray, List.map_cons, List.map_nil]; rfl) ?_
              with_reducible refine (hP1.out _ hHeld.out).mono ?_
              rintro e w3 ⟨rfl, hb⟩
              refine ⟨_, rfl, ?_⟩
              refine hK.out _ _ (⟨below_then hHeld.out hHeld.out.size hb⟩) (fun hHeld => ?_)
              clear hK K
              refine norm_ (a' := ?_) ?_ ?_
              rotate_left
              · show Act.put _ (some 89) _ = _
                simp only [Act.put, List.setIfInBounds_toArray, List.set_cons_zero, List.set_cons_succ, i64_w, i32_w]
                rfl
              refine two_ (i := 32) (j := 34) (Ni := some 92) (Nj := some 94) #[true, true, true, true, true, true, true, true, true, true, true, true, true, true, true, true, true, true, true, true, true, true, true, true, true, true, true, true, true, true, true, true, true, true, false, false, false, false, false] #[true, true, true, true, true, true, true, true, true, true, true, true, true, true, true, true, true, true, true, true, true, true, true, true, true, true, true, true, true, true, true, true, false, true, true, false, false, false, false] rfl rfl rfl rfl (by kernel_rfl) (by decide) (by decide) (fun K hK => ?_) (fun K hK => ?_)
              · skip
                refine goes_ Try.func49 (by kernel_rfl) rfl #[.pointer (some ⟨g, 0, none⟩), .int .i64 a] (by rfl) rfl rfl (by simp only [List.map_toArray, List.map_cons, List.map_nil]; rfl) ?_
                with_reducible refine (hP2.out _ hHeld.out).mono ?_
                rintro e w4 ⟨rfl, hb⟩
                refine ⟨_, rfl, ?_⟩
                refine hK.out _ _ (⟨below_then hHeld.out hHeld.out.size hb⟩) (fun hHeld => ?_)
                clear hK K
                refine norm_ (a' := ?_) ?_ ?_
                rotate_left
                · show Act.put _ (some 92) _ = _
                  simp only [Act.put, List.setIfInBounds_toArray, List.set_cons_zero, List.set_cons_succ, i64_w, i32_w]
                  rfl
                refine one_ (i := 34) (N := some 94) #[true, true, true, true, true, true, true, true, true, true, true, true, true, true, true, true, true, true, true, true, true, true, true, true, true, true, true, true, true, true, true, true, true, true, true, false, false, false, false] rfl rfl (by kernel_rfl) (by decide) (fun K hK => ?_)
                refine value_ (w1 := ?_) (v := ?_) (by rfl) rfl ?_ ?_
                rotate_left 2
                · go_simp
                  constructor
                  · rfl
                  · rfl
                have hC : Kd.C (Kd.int .u8) (w4.alloc (.cells #[.int .u8 cI] 5)) (some ⟨w4.heap.size, 0, none⟩) 1 [cI] := litC (Value.int .u8) (fun _ => rfl) w4 5 [cI] (by simp)
                refine hK.out _ _ (⟨below_then hHeld.out hHeld.out.size ((Below.refl _ _).alloc (Nat.le_refl _) _)⟩) (fun hHeld => ?_)
                clear hK K
                refine norm_ (a' := ?_) ?_ ?_
                rotate_left
                · show Act.put _ (some 94) _ = _
                  simp only [Act.put, List.setIfInBounds_toArray, List.set_cons_zero, List.set_cons_succ, i64_w, i32_w]
                  rfl
                refine one_ (i := 35) (N := some 95) #[true, true, true, true, true, true, true, true, true, true, true, true, true, true, true, true, true, true, true, true, true, true, true, true, true, true, true, true, true, true, true, true, true, true, true, true, false, false, false] rfl rfl (by kernel_rfl) (by decide) (fun K hK => ?_)
                have hcv := Kd.C_string (P := Try.prog) (dst := 9) (c := 1) Try.underlying66 Try.underlying5 Try.underlying9 hC
                rw [hcs.out] at hcv
                refine value_ (w1 := ?_) (v := ?_) (by rfl) rfl ?_ ?_
                rotate_left 2
                · go_simp
                  constructor
                  · rfl
                  · rfl
                refine hK.out _ _ (hHeld) (fun hHeld => ?_)
                clear hK K
                refine norm_ (a' := ?_) ?_ ?_
                rotate_left
                · show Act.put _ (some 95) _ = _
                  simp only [Act.put, List.setIfInBounds_toArray, List.set_cons_zero, List.set_cons_succ, i64_w, i32_w]
                  rfl
                exact norm_ (by simp only [putAll, Act.put, List.setIfInBounds_toArray, List.set_cons_zero, List.set_cons_succ]) (hCont w4.heap.size _ hHeld)
              · skip
                refine value_ (w1 := ?_) (v := ?_) (by rfl) rfl ?_ ?_
                rotate_left 2
                · go_simp
                  constructor
                  · rfl
                  · rfl
                have hC : Kd.C (Kd.int .u8) (w3.alloc (.cells #[.int .u8 cI] 5)) (some ⟨w3.heap.size, 0, none⟩) 1 [cI] := litC (Value.int .u8) (fun _ => rfl) w3 5 [cI] (by simp)
                refine hK.out _ _ (⟨below_then hHeld.out hHeld.out.size ((Below.refl _ _).alloc (Nat.le_refl _) _)⟩) (fun hHeld => ?_)
                clear hK K
                refine norm_ (a' := ?_) ?_ ?_
                rotate_left
                · show Act.put _ (some 94) _ = _
                  simp only [Act.put, List.setIfInBounds_toArray, List.set_cons_zero, List.set_cons_succ, i64_w, i32_w]
                  rfl
                refine two_ (i := 32) (j := 35) (Ni := some 92) (Nj := some 95) #[true, true, true, true, true, true, true, true, true, true, true, true, true, true, true, true, true, true, true, true, true, true, true, true, true, true, true, true, true, true, true, true, true, true, true, false, false, false, false] #[true, true, true, true, true, true, true, true, true, true, true, true, true, true, true, true, true, true, true, true, true, true, true, true, true, true, true, true, true, true, true, true, false, true, true, true, false, false, false] rfl rfl rfl rfl (by kernel_rfl) (by decide) (by decide) (fun K hK => ?_) (fun K hK => ?_)
                · skip
                  refine goes_ Try.func49 (by kernel_rfl) rfl #[.pointer (some ⟨g, 0, none⟩), .int .i64 a] (by rfl) rfl rfl (by simp only [List.map_toArray, List.map_cons, List.map_nil]; rfl) ?_
                  with_reducible refine (hP2.out _ hHeld.out).mono ?_
                  rintro e w4 ⟨rfl, hb⟩
                  refine ⟨_, rfl, ?_⟩
                  replace hC := Kd.C_below hC hb
                  refine hK.out _ _ (⟨below_then hHeld.out hHeld.out.size hb⟩) (fun hHeld => ?_)
                  clear hK K
                  refine norm_ (a' := ?_) ?_ ?_
                  rotate_left
                  · show Act.put _ (some 92) _ = _
                    simp only [Act.put, List.setIfInBounds_toArray, List.set_cons_zero, List.set_cons_succ, i64_w, i32_w]
                    rfl
                  refine one_ (i := 35) (N := some 95) #[true, true, true, true, true, true, true, true, true, true, true, true, true, true, true, true, true, true, true, true, true, true, true, true, true, true, true, true, true, true, true, true, true, true, true, true, false, false, false] rfl rfl (by kernel_rfl) (by decide) (fun K hK => ?_)
                  have hcv := Kd.C_string (P := Try.prog) (dst := 9) (c := 1) Try.underlying66 Try.underlying5 Try.underlying9 hC
                  rw [hcs.out] at hcv
                  refine value_ (w1 := ?_) (v := ?_) (by rfl) rfl ?_ ?_
                  rotate_left 2
                  · go_simp
                    constructor
                    · rfl
                    · rfl
                  refine hK.out _ _ (hHeld) (fun hHeld => ?_)
                  clear hK K
                  refine norm_ (a' := ?_) ?_ ?_
                  rotate_left
                  · show Act.put _ (some 95) _ = _
                    simp only [Act.put, List.setIfInBounds_toArray, List.set_cons_zero, List.set_cons_succ, i64_w, i32_w]
                    rfl
                  exact norm_ (by simp only [putAll, Act.put, List.setIfInBounds_toArray, List.set_cons_zero, List.set_cons_succ]) (hCont w3.heap.size _ hHeld)
                · skip
                  have hcv := Kd.C_string (P := Try.prog) (dst := 9) (c := 1) Try.underlying66 Try.underlying5 Try.underlying9 hC
                  rw [hcs.out] at hcv
                  refine value_ (w1 := ?_) (v := ?_) (by rfl) rfl ?_ ?_
                  rotate_left 2
                  · go_simp
                    constructor
                    · rfl
                    · rfl
                  refine hK.out _ _ (hHeld) (fun hHeld => ?_)
                  clear hK K
                  refine norm_ (a' := ?_) ?_ ?_
                  rotate_left
                  · show Act.put _ (some 95) _ = _
                    simp only [Act.put, List.setIfInBounds_toArray, List.set_cons_zero, List.set_cons_succ, i64_w, i32_w]
                    rfl
                  refine one_ (i := 32) (N := some 92) #[true, true, true, true, true, true, true, true, true, true, true, true, true, true, true, true, true, true, true, true, true, true, true, true, true, true, true, true, true, true, true, true, true, true, true, true, false, false, false] rfl rfl (by kernel_rfl) (by decide) (fun K hK => ?_)
                  refine goes_ Try.func49 (by kernel_rfl) rfl #[.pointer (some ⟨g, 0, none⟩), .int .i64 a] (by rfl) rfl rfl (by simp only [List.map_toArray, List.map_cons, List.map_nil]; rfl) ?_
                  with_reducible refine (hP2.out _ hHeld.out).mono ?_
                  rintro e w4 ⟨rfl, hb⟩
                  refine ⟨_, rfl, ?_⟩
                  refine hK.out _ _ (⟨below_then hHeld.out hHeld.out.size hb⟩) (fun hHeld => ?_)
                  clear hK K
                  refine norm_ (a' := ?_) ?_ ?_
                  rotate_left
                  · show Act.put _ (some 92) _ = _
                    simp only [Act.put, List.setIfInBounds_toArray, List.set_cons_zero, List.set_cons_succ, i64_w, i32_w]
                    rfl
                  exact norm_ (by simp only [putAll, Act.put, List.setIfInBounds_toArray, List.set_cons_zero, List.set_cons_succ]) (hCont w3.heap.size _ hHeld)
            · skip
              refine value_ (w1 := ?_) (v := ?_) (by rfl) rfl ?_ ?_
              rotate_left 2
              · go_simp
                constructor
                · rfl
                · rfl
              have hC : Kd.C (Kd.int .u8) (W5.alloc (.cells #[.int .u8 cI] 5)) (some ⟨W5.heap.size, 0, none⟩) 1 [cI] := litC (Value.int .u8) (fun _ => rfl) W5 5 [cI] (by simp)
              refine hK.out _ _ (⟨below_then hHeld.out hHeld.out.size ((Below.refl _ _).alloc (Nat.le_refl _) _)⟩) (fun hHeld => ?_)
              clear hK K
              refine norm_ (a' := ?_) ?_ ?_
              rotate_left
              · show Act.put _ (some 94) _ = _
                simp only [Act.put, List.setIfInBounds_toArray, List.set_cons_zero, List.set_cons_succ, i64_w, i32_w]
                rfl
              refine two_ (i := 29) (j := 35) (Ni := some 89) (Nj := some 95) #[true, true, true, true, true, true, true, true, true, true, true, true, true, true, true, true, true, true, true, true, true, true, true, true, true, true, true, true, true, true, true, true, false, true, true, false, false, false, false] #[true, true, true, true, true, true, true, true, true, true, true, true, true, true, true, true, true, true, true, true, true, true, true, true, true, true, true, true, true, false, true, true, false, true, true, true, false, false, false] rfl rfl rfl rfl (by kernel_rfl) (by decide) (by decide) (fun K hK => ?_) (fun K hK => ?_)
              · skip
                refine goes_ Try.func49 (by kernel_rfl) rfl #[.pointer (some ⟨g, 0, none⟩), .int .i64 s] (by rfl) rfl rfl (by simp only [List.map_toArray, List.map_cons, List.map_nil]; rfl) ?_
                with_reducible refine (hP1.out _ hHeld.out).mono ?_
                rintro e w3 ⟨rfl, hb⟩
                refine ⟨_, rfl, ?_⟩
                replace hC := Kd.C_below hC hb
                refine hK.out _ _ (⟨below_then hHeld.out hHeld.out.size hb⟩) (fun hHeld => ?_)
                clear hK K
                refine norm_ (a' := ?_) ?_ ?_
                rotate_left
                · show Act.put _ (some 89) _ = _
                  simp only [Act.put, List.setIfInBounds_toArray, List.set_cons_zero, List.set_cons_succ, i64_w, i32_w]
                  rfl
                refine two_ (i := 32) (j := 35) (Ni := some 92) (Nj := some 95) #[true, true, true, true, true, true, true, true, true, true, true, true, true, true, true, true, true, true, true, true, true, true, true, true, true, true, true, true, true, true, true, true, true, true, true, false, false, false, false] #[true, true, true, true, true, true, true, true, true, true, true, true, true, true, true, true, true, true, true, true, true, true, true, true, true, true, true, true, true, true, true, true, false, true, true, true, false, false, false] rfl rfl rfl rfl (by kernel_rfl) (by decide) (by decide) (fun K hK => ?_) (fun K hK => ?_)
                · skip
                  refine goes_ Try.func49 (by kernel_rfl) rfl #[.pointer (some ⟨g, 0, none⟩), .int .i64 a] (by rfl) rfl rfl (by simp only [List.map_toArray, List.map_cons, List.map_nil]; rfl) ?_
                  with_reducible refine (hP2.out _ hHeld.out).mono ?_
                  rintro e w4 ⟨rfl, hb⟩
                  refine ⟨_, rfl, ?_⟩
                  replace hC := Kd.C_below hC hb
                  refine hK.out _ _ (⟨below_then hHeld.out hHeld.out.size hb⟩) (fun hHeld => ?_)
                  clear hK K
                  refine norm_ (a' := ?_) ?_ ?_
                  rotate_left
                  · show Act.put _ (some 92) _ = _
                    simp only [Act.put, List.setIfInBounds_toArray, List.set_cons_zero, List.set_cons_succ, i64_w, i32_w]
                    rfl
                  refine one_ (i := 35) (N := some 95) #[true, true, true, true, true, true, true, true, true, true, true, true, true, true, true, true, true, true, true, true, true, true, true, true, true, true, true, true, true, true, true, true, true, true, true, true, false, false, false] rfl rfl (by kernel_rfl) (by decide) (fun K hK => ?_)
                  have hcv := Kd.C_string (P := Try.prog) (dst := 9) (c := 1) Try.underlying66 Try.underlying5 Try.underlying9 hC
                  rw [hcs.out] at hcv
                  refine value_ (w1 := ?_) (v := ?_) (by rfl) rfl ?_ ?_
                  rotate_left 2
                  · go_simp
                    constructor
                    · rfl
                    · rfl
                  refine hK.out _ _ (hHeld) (fun hHeld => ?_)
                  clear hK K
                  refine norm_ (a' := ?_) ?_ ?_
                  rotate_left
                  · show Act.put _ (some 95) _ = _
                    simp only [Act.put, List.setIfInBounds_toArray, List.set_cons_zero, List.set_cons_succ, i64_w, i32_w]
                    rfl
                  exact norm_ (by simp only [putAll, Act.put, List.setIfInBounds_toArray, List.set_cons_zero, List.set_cons_succ]) (hCont W5.heap.size _ hHeld)
                · skip
                  have hcv := Kd.C_string (P := Try.prog) (dst := 9) (c := 1) Try.underlying66 Try.underlying5 Try.underlying9 hC
                  rw [hcs.out] at hcv
                  refine value_ (w1 := ?_) (v := ?_) (by rfl) rfl ?_ ?_
                  rotate_left 2
                  · go_simp
                    constructor
                    · rfl
                    · rfl
                  refine hK.out _ _ (hHeld) (fun hHeld => ?_)
                  clear hK K
                  refine norm_ (a' := ?_) ?_ ?_
                  rotate_left
                  · show Act.put _ (some 95) _ = _
                    simp only [Act.put, List.setIfInBounds_toArray, List.set_cons_zero, List.set_cons_succ, i64_w, i32_w]
                    rfl
                  refine one_ (i := 32) (N := some 92) #[true, true, true, true, true, true, true, true, true, true, true, true, true, true, true, true, true, true, true, true, true, true, true, true, true, true, true, true, true, true, true, true, true, true, true, true, false, false, false] rfl rfl (by kernel_rfl) (by decide) (fun K hK => ?_)
                  refine goes_ Try.func49 (by kernel_rfl) rfl #[.pointer (some ⟨g, 0, none⟩), .int .i64 a] (by rfl) rfl rfl (by simp only [List.map_toArray, List.map_cons, List.map_nil]; rfl) ?_
                  with_reducible refine (hP2.out _ hHeld.out).mono ?_
                  rintro e w4 ⟨rfl, hb⟩
                  refine ⟨_, rfl, ?_⟩
                  refine hK.out _ _ (⟨below_then hHeld.out hHeld.out.size hb⟩) (fun hHeld => ?_)
                  clear hK K
                  refine norm_ (a' := ?_) ?_ ?_
                  rotate_left
                  · show Act.put _ (some 92) _ = _
                    simp only [Act.put, List.setIfInBounds_toArray, List.set_cons_zero, List.set_cons_succ, i64_w, i32_w]
                    rfl
                  exact norm_ (by simp only [putAll, Act.put, List.setIfInBounds_toArray, List.set_cons_zero, List.set_cons_succ]) (hCont W5.heap.size _ hHeld)
              · skip
                have hcv := Kd.C_string (P := Try.prog) (dst := 9) (c := 1) Try.underlying66 Try.underlying5 Try.underlying9 hC
                rw [hcs.out] at hcv
                refine value_ (w1 := ?_) (v := ?_) (by rfl) rfl ?_ ?_
                rotate_left 2
                · go_simp
                  constructor
                  · rfl
                  · rfl
                refine hK.out _ _ (hHeld) (fun hHeld => ?_)
                clear hK K
                refine norm_ (a' := ?_) ?_ ?_
                rotate_left
                · show Act.put _ (some 95) _ = _
                  simp only [Act.put, List.setIfInBounds_toArray, List.set_cons_zero, List.set_cons_succ, i64_w, i32_w]
                  rfl
                refine one_ (i := 29) (N := some 89) #[true, true, true, true, true, true, true, true, true, true, true, true, true, true, true, true, true, true, true, true, true, true, true, true, true, true, true, true, true, true, true, true, false, true, true, true, false, false, false] rfl rfl (by kernel_rfl) (by decide) (fun K hK => ?_)
                refine goes_ Try.func49 (by kernel_rfl) rfl #[.pointer (some ⟨g, 0, none⟩), .int .i64 s] (by rfl) rfl rfl (by simp only [List.map_toArray, List.map_cons, List.map_nil]; rfl) ?_
                with_reducible refine (hP1.out _ hHeld.out).mono ?_
                rintro e w3 ⟨rfl, hb⟩
                refine ⟨_, rfl, ?_⟩
                refine hK.out _ _ (⟨below_then hHeld.out hHeld.out.size hb⟩) (fun hHeld => ?_)
                clear hK K
                refine norm_ (a' := ?_) ?_ ?_
                rotate_left
                · show Act.put _ (some 89) _ = _
                  simp only [Act.put, List.setIfInBounds_toArray, List.set_cons_zero, List.set_cons_succ, i64_w, i32_w]
                  rfl
                refine one_ (i := 32) (N := some 92) #[true, true, true, true, true, true, true, true, true, true, true, true, true, true, true, true, true, true, true, true, true, true, true, true, true, true, true, true, true, true, true, true, true, true, true, true, false, false, false] rfl rfl (by kernel_rfl) (by decide) (fun K hK => ?_)
                refine goes_ Try.func49 (by kernel_rfl) rfl #[.pointer (some ⟨g, 0, none⟩), .int .i64 a] (by rfl) rfl rfl (by simp only [List.map_toArray, List.map_cons, List.map_nil]; rfl) ?_
                with_reducible refine (hP2.out _ hHeld.out).mono ?_
                rintro e w4 ⟨rfl, hb⟩
                refine ⟨_, rfl, ?_⟩
                refine hK.out _ _ (⟨below_then hHeld.out hHeld.out.size hb⟩) (fun hHeld => ?_)
                clear hK K
                refine norm_ (a' := ?_) ?_ ?_
                rotate_left
                · show Act.put _ (some 92) _ = _
                  simp only [Act.put, List.setIfInBounds_toArray, List.set_cons_zero, List.set_cons_succ, i64_w, i32_w]
                  rfl
                exact norm_ (by simp only [putAll, Act.put, List.setIfInBounds_toArray, List.set_cons_zero, List.set_cons_succ]) (hCont W5.heap.size _ hHeld)
          rintro sb w6 hHeld
          refine norm_ (a' := ?_) ?_ ?_
          rotate_left
          · simp only [putAll, Act.put, List.setIfInBounds_toArray, List.set_cons_zero, List.set_cons_succ]
            rfl
          refine pure_ (i := 36) (N := some 96) (v := ?_) (a' := ?_) #[true, true, true, true, true, true, true, true, true, true, true, true, true, true, true, true, true, true, true, true, true, true, true, true, true, true, true, true, true, true, true, true, true, true, true, true, true, false, false] rfl rfl (by kernel_rfl) (fun _ _ _ h => h) (Or.inl ⟨by rfl, ?_⟩) ?_ ?_
          rotate_left
          · intro w'
            go_simp
            with_reducible rfl
          rotate_left
          · simp only [Act.put, List.setIfInBounds_toArray, List.set_cons_zero, List.set_cons_succ, i64_w, i32_w]
            rfl
          refine pure_ (i := 37) (N := some 97) (v := ?_) (a' := ?_) #[true, true, true, true, true, true, true, true, true, true, true, true, true, true, true, true, true, true, true, true, true, true, true, true, true, true, true, true, true, true, true, true, true, true, true, true, true, true, false] rfl rfl (by kernel_rfl) (fun _ _ _ h => h) (Or.inl ⟨by rfl, ?_⟩) ?_ ?_
          rotate_left
          · intro w'
            go_simp
            with_reducible rfl
          rotate_left
          · simp only [Act.put, List.setIfInBounds_toArray, List.set_cons_zero, List.set_cons_succ, i64_w, i32_w]
            rfl
          refine pure_ (i := 38) (N := some 98) (v := ?_) (a' := ?_) #[true, true, true, true, true, true, true, true, true, true, true, true, true, true, true, true, true, true, true, true, true, true, true, true, true, true, true, true, true, true, true, true, true, true, true, true, true, true, true] rfl rfl (by kernel_rfl) (fun _ _ _ h => h) (Or.inl ⟨by rfl, ?_⟩) ?_ ?_
          rotate_left
          · intro w'
            go_simp
            with_reducible rfl
          rotate_left
          · simp only [Act.put, List.setIfInBounds_toArray, List.set_cons_zero, List.set_cons_succ, i64_w, i32_w]
            rfl
          refine done_ (by kernel_rfl) ?_
          clear hwd
          go_wp2
          go_roundg (gk - 1)
          case measure => omega
          case rel => exact ⟨s + 1, by go_num, by omega, ⟨Below.then_ hB.out hHeld.out⟩⟩
      · have e1 : decide ((s : Int) < (sts.length : Int)) = false := decide_eq_false (by omega)
        have e1' : decide (s < sts.length) = false := decide_eq_false hlt
        clear hTw
        go_wp2_with (first
          | (go_at_call 44; refine hL.out.mono ?_; rintro r w' ⟨rfl, rfl⟩)
          | (go_at_call 42; refine (awake16 _).mono ?_; rintro r w' ⟨rfl, hb⟩; replace hb := Aside0.mk hb))
        go_ret
        exact ⟨rfl, Below.then_ hb02.out (Below.then_ hB.out hb.out)⟩
theorem trieAbove_row (A : Option Addr) (c : Nat) (l : List ByteArray) (w : World) (hr : Kd.C Kd.string w A l.length l) (hc : l.length ≤ c) (hl : l.length * 16 ≤ 140737488351232) :
    Calls Try.prog 7 #[.slice A l.length c] w fun r w' => r = .returned (.bool true) ∧ Below w.heap.size w w' := trieAbove_walk A c l w hr hc (by omega)
end Go.Proofs.Ythgjckibnojnpaa
namespace Go.Proofs.Ythgjckibnojnpaa
open Go.RowKit Go.Proofs.YthgjckibnojnpaaW.PrintWords PA Pl

theorem lastAt (acc : List ByteArray) (h : acc ≠ []) (hl : acc.length ≤ 4294967296) : wrap64 ((acc.length : Int) - 1) = ((acc.length - 1 : Nat) : Int) ∧ rdOf ByteArray.empty acc ((acc.length - 1 : Nat) : Int) = acc.getLast?.getD ByteArray.empty := by
  have hp := List.length_pos_iff.2 h
  refine ⟨(wrap_in (by omega) (by omega)).trans (by omega), ?_⟩
  rw [rdOf_at _ _ (by omega), List.getLast?_eq_getElem?, List.getElem?_eq_getElem (by omega)]
  rfl
/-- One level's texts, from number k on. -/
theorem stR_l2 (xs : List ByteArray) (hx : xs.length ≤ 65535) (L n : Nat) (hn : n ≤ 65536) (r : List ByteArray) (rest : ∀ acc, acc = stLevel xs n (stUpto xs (n - 1)) → Ev (fun m => juratref16_States.l1 m xs acc L ((n + 1 : Nat) : Int)) r) (d : Nat) :
    ∀ k : Nat, k + d = xs.length → Ev (fun m => juratref16_States.l2 m xs ((xs.take k).foldl (stStep n) (stUpto xs (n - 1))) L n k) r := by
  induction d with
  | zero =>
    intro k hk
    obtain rfl : k = xs.length := by omega
    refine Ev.step (fun m => by rw [juratref16_States.l2]) (ev_neg (by omega) ?_)
    rw [wrap_nat (show n < 9223372036854775807 by omega), List.take_length]
    exact rest _ rfl
  | succ d ih =>
    intro k hk
    have hlt : k < xs.length := by omega
    have e := ih (k + 1) (by omega)
    rw [List.take_succ_eq_append_getElem hlt, List.foldl_append] at e
    have hne := fold_ne n (xs.take k) _ (stUpto_ne xs (n - 1))
    have hl := fold_len n (xs.take k) (stUpto xs (n - 1))
    have hl2 := stUpto_len xs (n - 1)
    have hl3 : (n - 1) * xs.length ≤ 65535 * 65535 := Nat.mul_le_mul (by omega) hx
    rw [List.length_take] at hl
    generalize (xs.take k).foldl (stStep n) (stUpto xs (n - 1)) = acc at e hne hl ⊢
    obtain ⟨l1, l2⟩ := lastAt acc hne (by omega)
    have hp := List.length_pos_iff.2 hne
    simp only [List.foldl_cons, List.foldl_nil] at e
    refine Ev.step (fun m => by rw [juratref16_States.l2]) (ev_pos (by omega) (ev_pos (by omega) ?_))
    simp only [rdOf_at xs k hlt, wrap_nat (show k < 9223372036854775807 by omega), l1, l2, Int.toNat_natCast]
    by_cases h1 : n ≤ xs[k].size
    · refine ev_pos (by omega) (ev_pos (by omega) (ev_pos (by omega) (ev_pos (by omega) (ev_pos (by omega) ?_))))
      by_cases h2 : beg xs[k] n = acc.getLast?.getD ByteArray.empty
      · refine ev_pos (toList_inj.2 h2) ?_
        rw [stStep, if_neg (fun h => h.2 h2)] at e
        exact e
      · refine ev_neg (fun h => h2 (toList_inj.1 h)) (ev_pos (by omega) ?_)
        rw [stStep, if_pos ⟨h1, h2⟩] at e
        exact e
    · refine ev_neg (by omega) ?_
      rw [stStep, if_neg (fun h => h1 h.1)] at e
      exact e
theorem stR_l1 (xs : List ByteArray) (hx : xs.length ≤ 65535) (L : Nat) (hL : L ≤ 65535) (d : Nat) : ∀ n : Nat, 0 < n → n + d = L + 1 → Ev (fun m => juratref16_States.l1 m xs (stUpto xs (n - 1)) L n) (stUpto xs L) := by
  induction d with
  | zero =>
    intro n hn hd
    obtain rfl : n = L + 1 := by omega
    rw [Nat.add_sub_cancel]
    exact Ev.step (fun m => by rw [juratref16_States.l1]) (ev_neg (by omega) ev_now)
  | succ d ih =>
    intro n hn hd
    refine Ev.step (fun m => by rw [juratref16_States.l1]) (ev_pos (by omega) ?_)
    have e := ih (n + 1) (by omega) (by omega)
    refine stR_l2 xs hx L n (by omega) _ (fun acc ha => ?_) xs.length 0 (by omega)
    have h1 : stUpto xs (n + 1 - 1) = acc := by
      rw [ha, Nat.add_sub_cancel]
      obtain ⟨j, rfl⟩ : ∃ j, n = j + 1 := ⟨n - 1, by omega⟩
      rfl
    rw [h1] at e
    exact e
theorem longest_snoc (xs : List ByteArray) (s : ByteArray) : longest (xs ++ [s]) = max (longest xs) s.size := by simp [longest]
theorem longest_le {xs : List ByteArray} (h : ∀ s ∈ xs, s.size ≤ 65535) (k : Nat) : longest (xs.take k) ≤ 65535 := by
  induction k with
  | zero => simp [longest]
  | succ k ih =>
    rcases Nat.lt_or_ge k xs.length with hlt | hge
    · rw [List.take_succ_eq_append_getElem hlt, longest_snoc]
      have := h _ (List.getElem_mem hlt)
      omega
    · rw [List.take_of_length_le (by omega)] at ih ⊢
      exact ih
theorem stR_l0 (xs : List ByteArray) (hT : Tame xs) (d : Nat) : ∀ k : Nat, k + d = xs.length → Ev (fun m => juratref16_States.l0 m xs [ByteArray.empty] (longest (xs.take k)) k) (stUpto xs (longest xs)) := by
  induction d with
  | zero =>
    intro k hk
    obtain rfl : k = xs.length := by omega
    refine Ev.step (fun m => by rw [juratref16_States.l0]) (ev_neg (by omega) ?_)
    have h1 := longest_le (fun s hs => (hT.size s hs).2) xs.length
    rw [List.take_length] at h1 ⊢
    exact stR_l1 xs hT.len _ h1 (longest xs) 1 (by omega) (by omega)
  | succ d ih =>
    intro k hk
    have hlt : k < xs.length := by omega
    have h0 := hT.len
    have hs := hT.size _ (List.getElem_mem hlt)
    have e := ih (k + 1) (by omega)
    rw [List.take_succ_eq_append_getElem hlt, longest_snoc] at e
    refine Ev.step (fun m => by rw [juratref16_States.l0]) (ev_pos (by omega) (ev_pos (by omega) ?_))
    simp only [rdOf_at xs k hlt, wrap_nat (show k < 9223372036854775807 by omega)]
    by_cases h : longest (xs.take k) < xs[k].size
    · rw [Nat.max_eq_right (by omega)] at e
      exact ev_pos (by omega) e
    · rw [Nat.max_eq_left (by omega)] at e
      exact ev_neg (by omega) e
theorem statesR_ev (xs : List ByteArray) (hT : Tame xs) : Ev (fun m => juratref16_States.f m xs) (stOf xs) := by
  unfold juratref16_States.f
  exact stR_l0 xs hT xs.length 0 (by omega)
theorem refStates (A : Option Addr) (c : Nat) (xs : List ByteArray) (w : World) (hr : Kd.C Kd.string w A xs.length xs) (hc : xs.length ≤ c) (hT : Tame xs) :
    Calls Try.prog 50 #[.slice A xs.length c] w fun e w' => ∃ v, e = .returned v ∧ SlS w' v (stOf xs) ∧ Below w.heap.size w w' := by
  obtain ⟨k, hk⟩ := (statesR_ev xs hT).rounds
  exact (juratref16_States.calls k A c xs _ w hr hc hk).mono fun _ _ ⟨v, h1, h2, h3⟩ => ⟨v, h1, Sl.of_R h2, h3⟩
/-- What the number of a text among texts is; -1: none. -/
def FindIs (xs : List ByteArray) (p : ByteArray) (v : Int) : Prop := (v = -1 ∧ p ∉ xs) ∨ ∃ k : Nat, v = k ∧ xs[k]? = some p ∧ p ∉ xs.take k
theorem findR_l0 (xs : List ByteArray) (hx : xs.length ≤ 4294967296) (p : ByteArray) (d : Nat) : ∀ k : Nat, k + d = xs.length → p ∉ xs.take k → ∃ v, FindIs xs p v ∧ Ev (fun m => juratref16_Find.l0 m xs p k) v := by
  induction d with
  | zero =>
    intro k hk hp
    rw [List.take_of_length_le (by omega)] at hp
    exact ⟨-1, .inl ⟨rfl, hp⟩, Ev.step (fun m => by rw [juratref16_Find.l0]) (ev_neg (by omega) ev_now)⟩
  | succ d ih =>
    intro k hk hp
    have hlt : k < xs.length := by omega
    by_cases h : xs[k] = p
    · refine ⟨k, .inr ⟨k, rfl, by rw [List.getElem?_eq_getElem hlt, h], hp⟩, Ev.step (fun m => by rw [juratref16_Find.l0]) (ev_pos (by omega) (ev_pos (by omega) ?_))⟩
      simp only [rdOf_at xs k hlt]
      exact ev_pos (toList_inj.2 h) ev_now
    · obtain ⟨v, h1, h2⟩ := ih (k + 1) (by omega) (fun hm => by
        rw [List.take_succ_eq_append_getElem hlt, List.mem_append, List.mem_singleton] at hm
        exact hm.elim hp (fun e => h e.symm))
      refine ⟨v, h1, Ev.step (fun m => by rw [juratref16_Find.l0]) (ev_pos (by omega) (ev_pos (by omega) ?_))⟩
      simp only [rdOf_at xs k hlt, wrap_nat (show k < 9223372036854775807 by omega)]
      exact ev_neg (fun e => h (toList_inj.1 e)) h2
theorem refFind16 (A : Option Addr) (c : Nat) (xs : List ByteArray) (p : ByteArray) (w : World) (hr : Kd.C Kd.string w A xs.length xs) (hc : xs.length ≤ c) (hx : xs.length ≤ 4294967296) :
    ∃ v, FindIs xs p v ∧ Calls Try.prog 51 #[.slice A xs.length c, .string p] w fun e w' => e = .returned (.int .i64 v) ∧ ∃ n, w' = w.drewN n := by
  obtain ⟨v, h1, h2⟩ := findR_l0 xs hx p xs.length 0 (by omega) (by simp)
  obtain ⟨k, hk⟩ := h2.rounds
  exact ⟨v, h1, (juratref16_Find.calls k A c xs p _ w hr hc hk).mono fun _ _ ⟨h1, h2⟩ => ⟨h1, h2.out⟩⟩
theorem findR10_l0 (xs : List ByteArray) (hx : xs.length ≤ 4294967296) (p : ByteArray) (d : Nat) : ∀ k : Nat, k + d = xs.length → p ∉ xs.take k → ∃ v, FindIs xs p v ∧ Ev (fun m => juratref10_Find.l0 m xs p k) v := by
  induction d with
  | zero =>
    intro k hk hp
    rw [List.take_of_length_le (by omega)] at hp
    exact ⟨-1, .inl ⟨rfl, hp⟩, Ev.step (fun m => by rw [juratref10_Find.l0]) (ev_neg (by omega) ev_now)⟩
  | succ d ih =>
    intro k hk hp
    have hlt : k < xs.length := by omega
    by_cases h : xs[k] = p
    · refine ⟨k, .inr ⟨k, rfl, by rw [List.getElem?_eq_getElem hlt, h], hp⟩, Ev.step (fun m => by rw [juratref10_Find.l0]) (ev_pos (by omega) (ev_pos (by omega) ?_))⟩
      simp only [rdOf_at xs k hlt]
      exact ev_pos (toList_inj.2 h) ev_now
    · obtain ⟨v, h1, h2⟩ := ih (k + 1) (by omega) (fun hm => by
        rw [List.take_succ_eq_append_getElem hlt, List.mem_append, List.mem_singleton] at hm
        exact hm.elim hp (fun e => h e.symm))
      refine ⟨v, h1, Ev.step (fun m => by rw [juratref10_Find.l0]) (ev_pos (by omega) (ev_pos (by omega) ?_))⟩
      simp only [rdOf_at xs k hlt, wrap_nat (show k < 9223372036854775807 by omega)]
      exact ev_neg (fun e => h (toList_inj.1 e)) h2
theorem refFind10 (A : Option Addr) (c : Nat) (xs : List ByteArray) (p : ByteArray) (w : World) (hr : Kd.C Kd.string w A xs.length xs) (hc : xs.length ≤ c) (hx : xs.length ≤ 4294967296) :
    ∃ v, FindIs xs p v ∧ Calls Try.prog 53 #[.slice A xs.length c, .string p] w fun e w' => e = .returned (.int .i64 v) ∧ ∃ n, w' = w.drewN n := by
  obtain ⟨v, h1, h2⟩ := findR10_l0 xs hx p xs.length 0 (by omega) (by simp)
  obtain ⟨k, hk⟩ := h2.rounds
  exact ⟨v, h1, (juratref10_Find.calls k A c xs p _ w hr hc hk).mono fun _ _ ⟨h1, h2⟩ => ⟨h1, h2.out⟩⟩
end Go.Proofs.Ythgjckibnojnpaa
namespace Go.Proofs.Ythgjckibnojnpaa
open Go.RowKit Go.Proofs.YthgjckibnojnpaaW.PrintWords Go.Proofs.YthgjckibnojnpaaW.PrintLast Pl

theorem trieBytesNo (p : Option Addr) (N : Nat) (s : Int) (hs : ¬ (0 ≤ s ∧ s < N)) (w : World) (hL : Calls Try.prog 44 #[.pointer p] w fun e w' => e = .returned (.int .i64 N) ∧ w = w') :
    Calls Try.prog 54 #[.pointer p, .int .i64 s] w fun e w' => e = .returned (.string ByteArray.empty) ∧ w = w' := by
  have hi := trieIs p N s w hL
  rw [decide_eq_false hs] at hi
  replace hi := Aside0.mk hi
  clear hL hs
  go_enter Try.func54, Try.ntmps54
  go_wp2_with fail
  refine hi.out.mono ?_
  rintro e w' ⟨rfl, rfl⟩
  go_wp2
  go_ret
  exact ⟨rfl, rfl⟩
set_option maxHeartbeats 4000000 in
set_option maxRecDepth 20000 in
theorem trieBytes (g : Nat) (sts : List TS) (s : Nat) (hs : s < sts.length) (w : World) (h : TrieAt w g sts) (f m : Nat) (hf : sts[s].first = (f : Int)) (hm : sts[s].many = (m : Int)) (hle : f + m ≤ sts.length)
    (L : List UInt8) (hL : L.length = m) (hb : ∀ (k : Nat) (h1 : k < L.length) (h2 : f + k < sts.length), sts[f + k].by_ = (L[k].toNat : Int)) :
    Calls Try.prog 54 #[.pointer (some ⟨g, 0, none⟩), .int .i64 s] w fun e w' => e = .returned (.string ⟨L.toArray⟩) ∧ Below w.heap.size w w' := by
  have hi := trieIs _ _ s w (trieLen g sts w h)
  rw [decide_eq_true (show (0 : Int) ≤ s ∧ (s : Int) < sts.length by omega)] at hi
  obtain ⟨q, cap, h1, h2, h3, h4⟩ := h.row
  have x1 : ((0 : Int) ≤ (s : Int)) = True := eq_true (by omega)
  have x2 : ((s : Int) < (sts.length : Int)) = True := eq_true (by omega)
  have hc4 := h4 s hs 4 (by omega)
  have hc5 := h4 s hs 5 (by omega)
  simp only [TS.cells, List.getElem?_cons_succ, List.getElem?_cons_zero, Nat.add_zero] at hc4 hc5
  rw [hf] at hc4
  rw [hm] at hc5
  clear hf hm
  have hlen := h.len
  have hcells : ∀ W', Below w.heap.size w W' → W'.cell? ⟨g, 0, none⟩ = some (.slice (some ⟨q, 0, none⟩) sts.length cap) ∧ W'.cell? ⟨q, s * 6 + 4, none⟩ = some (.int .i64 f) ∧ W'.cell? ⟨q, s * 6 + 5, none⟩ = some (.int .i64 m) ∧
      ∀ (k : Nat) (hk : k < L.length), W'.cell? ⟨q, (f + k) * 6 + 1, none⟩ = some (.int .u8 (L[k].toNat : Int)) := fun W' hB =>
    ⟨(hB.cell (p := ⟨g, 0, none⟩) h.lt).trans h1, (hB.cell (p := ⟨q, s * 6 + 4, none⟩) h3).trans hc4, (hB.cell (p := ⟨q, s * 6 + 5, none⟩) h3).trans hc5, fun k hk => by
      have := h4 (f + k) (by omega) 1 (by omega)
      simp only [TS.cells, List.getElem?_cons_succ, List.getElem?_cons_zero] at this
      rw [hb k hk (by omega)] at this
      exact (hB.cell (p := ⟨q, (f + k) * 6 + 1, none⟩) h3).trans this⟩
  have hbd := Bd.new w
  have hB0 : Below w.heap.size w (w.alloc (.cells #[.pointer none, .slice none 0 0] 112)) := (Below.refl _ _).alloc (Nat.le_refl _) _
  obtain ⟨k1, _, k3, _⟩ := hcells _ hB0
  replace h := Aside0.mk h
  replace h4 := Aside0.mk h4
  replace hi := Aside0.mk hi
  replace hb := Aside0.mk hb
  replace hcells := Aside0.mk hcells
  replace hbd := Aside0.mk hbd
  replace hB0 := Aside0.mk hB0
  clear hc4 hc5 h1
  go_enter Try.func54, Try.ntmps54
  go_wp2_with fail
  refine hi.out.mono ?_
  rintro e w' ⟨rfl, rfl⟩
  go_wp2
  clear k1 k3
  go_loopg [19] m (fun gh s19 wx => ∃ k : Nat, s19 = .int .i64 k ∧ k + gh = m ∧ Aside0 (Bd w.heap.size w.heap.size (L.take k) wx) ∧ Aside0 (Below w.heap.size w wx))
  case atStart => exact ⟨0, rfl, by omega, hbd, hB0⟩
  case round =>
    clear hbd hB0
    obtain ⟨k, rfl, hk, hd, hB⟩ := hrel
    rename World => W1
    by_cases hlt : k < m
    · have d1 : decide ((k : Int) < (m : Int)) = true := decide_eq_true (by omega)
      have d1' : decide (k < m) = true := decide_eq_true hlt
      have hkL : k < L.length := by omega
      have hd2 := Bd.below hd.out ((Below.refl W1.heap.size W1).drew)
      have hB2 := hB.out.drew
      obtain ⟨c1, c2, _, c3⟩ := hcells.out _ hB2
      replace c3 := c3 k hkL
      obtain ⟨fk, hfk⟩ : ∃ fk, fk = f + k := ⟨_, rfl⟩
      rw [← hfk] at c3
      have x3 : ((0 : Int) ≤ (fk : Int)) = True := eq_true (by omega)
      have x4 : ((fk : Int) < (sts.length : Int)) = True := eq_true (by omega)
      have htk : L.take (k + 1) = L.take k ++ [L[k]] := List.take_succ_eq_append_getElem hkL
      have hwr := fun (h : (L.take k).length + 1 ≤ 140737488355328) => writeByte w.heap.size w.heap.size (L.take k) L[k] _ hd2 h hB2.size
      replace hwr := hwr (by rw [List.length_take]; omega)
      replace hwr := Aside0.mk hwr
      replace hB2 := Aside0.mk hB2
      replace htk := Aside0.mk htk
      clear hd hd2
      replace hfk := Lib.hid hfk
      go_upto_region 7 with fail
      have hw : wrap64 ((f : Int) + (k : Int)) = (fk : Int) := by rw [hfk.out]; exact wrap_in (by omega) (by omega)
      refine start_ (n := 18) (S := fun w' => w'.cell? ⟨g, 0, none⟩ = some ((.slice (some ⟨q, 0, none⟩) sts.length cap)) ∧ w'.cell? ⟨q, s * 6 + 4, none⟩ = some (.int .i64 f) ∧ w'.cell? ⟨q, fk * 6 + 1, none⟩ = some (.int .u8 (L[k].toNat : Int))) (ds := [17]) #[false, false, false, false, false, false, false, false, false, false, false, false, false, false, false, false, false, false] (by kernel_rfl) rfl rfl ⟨c1, c2, c3⟩ (fun hHeld => ?_)
      clear c1 c2 c3
      generalize W1.drew = W2 at hB2 hwr hHeld ⊢
      refine pure_ (i := 0) (N := some 22) (v := ?_) (a' := ?_) #[true, false, false, false, false, false, false, false, false, false, false, false, false, false, false, false, false, false] rfl rfl (by kernel_rfl) (fun _ _ _ h => h) (Or.inl ⟨by rfl, ?_⟩) ?_ ?_
      rotate_left
      · intro w'
        go_simp
        with_reducible rfl
      rotate_left
      · simp only [Act.put, List.setIfInBounds_toArray, List.set_cons_zero, List.set_cons_succ, i64_w, i32_w]
        rfl
      refine pure_ (i := 1) (N := some 23) (v := ?_) (a' := ?_) #[true, true, false, false, false, false, false, false, false, false, false, false, false, false, false, false, false, false] rfl rfl (by kernel_rfl) (fun _ _ _ h => h) (Or.inl ⟨by rfl, ?_⟩) ?_ ?_
      rotate_left
      · intro w'
        go_simp
        with_reducible rfl
      rotate_left
      · simp only [Act.put, List.setIfInBounds_toArray, List.set_cons_zero, List.set_cons_succ, i64_w, i32_w]
        rfl
      refine pure_ (i := 2) (N := some 24) (v := ?_) (a' := ?_) #[true, true, true, false, false, false, false, false, false, false, false, false, false, false, false, false, false, false] rfl rfl (by kernel_rfl) (fun _ _ _ h => h) (Or.inl ⟨by rfl, ?_⟩) ?_ ?_
      rotate_left
      · intro w'
        go_simp
        with_reducible rfl
      rotate_left
      · simp only [Act.put, List.setIfInBounds_toArray, List.set_cons_zero, List.set_cons_succ, i64_w, i32_w]
        rfl
      refine pure_ (i := 4) (N := some 26) (v := ?_) (a' := ?_) #[true, true, true, false, true, false, false, false, false, false, false, false, false, false, false, false, false, false] rfl rfl (by kernel_rfl) (fun _ _ _ h => h) (Or.inl ⟨by rfl, ?_⟩) ?_ ?_
      rotate_left
      · intro w'
        go_simp
        with_reducible rfl
      rotate_left
      · simp only [Act.put, List.setIfInBounds_toArray, List.set_cons_zero, List.set_cons_succ, i64_w, i32_w]
        rfl
      refine pure_ (i := 5) (N := some 27) (v := ?_) (a' := ?_) #[true, true, true, false, true, true, false, false, false, false, false, false, false, false, false, false, false, false] rfl rfl (by kernel_rfl) (fun _ _ _ h => h) (Or.inl ⟨by rfl, ?_⟩) ?_ ?_
      rotate_left
      · intro w'
        go_simp
        with_reducible rfl
      rotate_left
      · simp only [Act.put, List.setIfInBounds_toArray, List.set_cons_zero, List.set_cons_succ, i64_w, i32_w]
        rfl
      refine pure_ (i := 6) (N := some 28) (v := ?_) (a' := ?_) #[true, true, true, false, true, true, true, false, false, false, false, false, false, false, false, false, false, false] rfl rfl (by kernel_rfl) (fun _ _ _ h => h) (Or.inl ⟨by rfl, ?_⟩) ?_ ?_
      rotate_left
      · intro w'
        go_simp
        with_reducible rfl
      rotate_left
      · simp only [Act.put, List.setIfInBounds_toArray, List.set_cons_zero, List.set_cons_succ, i64_w, i32_w]
        rfl
      refine pure_ (i := 8) (N := some 30) (v := ?_) (a' := ?_) #[true, true, true, false, true, true, true, false, true, false, false, false, false, false, false, false, false, false] rfl rfl (by kernel_rfl) (fun _ _ _ h => h) (Or.inl ⟨by rfl, ?_⟩) ?_ ?_
      rotate_left
      · intro w'
        go_simp
        with_reducible rfl
      rotate_left
      · simp only [Act.put, List.setIfInBounds_toArray, List.set_cons_zero, List.set_cons_succ, i64_w, i32_w]
        rfl
      refine pure_ (i := 12) (N := some 34) (v := ?_) (a' := ?_) #[true, true, true, false, true, true, true, false, true, false, false, false, true, false, false, false, false, false] rfl rfl (by kernel_rfl) (fun _ _ _ h => h) (Or.inl ⟨by rfl, ?_⟩) ?_ ?_
      rotate_left
      · intro w'
        go_simp
        with_reducible rfl
      rotate_left
      · simp only [Act.put, List.setIfInBounds_toArray, List.set_cons_zero, List.set_cons_succ, i64_w, i32_w]
        rfl
      refine take_ (i := 3) (N := some 25) (v := ?_) (a' := ?_) #[true, true, true, true, true, true, true, false, true, false, false, false, true, false, false, false, false, false] rfl rfl (by kernel_rfl) (fun _ _ _ h => h) (Or.inl ⟨by rfl, ?_⟩) hHeld ?_ ?_
      rotate_left
      · rintro w' ⟨s0, s1, s2⟩
        go_simp
        with_reducible rfl
      rotate_left
      · simp only [Act.put, List.setIfInBounds_toArray, List.set_cons_zero, List.set_cons_succ, i64_w, i32_w]
        rfl
      refine take_ (i := 7) (N := some 29) (v := ?_) (a' := ?_) #[true, true, true, true, true, true, true, true, true, false, false, false, true, false, false, false, false, false] rfl rfl (by kernel_rfl) (fun _ _ _ h => h) (Or.inl ⟨by rfl, ?_⟩) hHeld ?_ ?_
      rotate_left
      · rintro w' ⟨s0, s1, s2⟩
        go_simp
        with_reducible rfl
      rotate_left
      · simp only [Act.put, List.setIfInBounds_toArray, List.set_cons_zero, List.set_cons_succ, i64_w, i32_w]
        rfl
      refine pure_ (i := 9) (N := some 31) (v := ?_) (a' := ?_) #[true, true, true, true, true, true, true, true, true, true, false, false, true, false, false, false, false, false] rfl rfl (by kernel_rfl) (fun _ _ _ h => h) (Or.inl ⟨by rfl, ?_⟩) ?_ ?_
      rotate_left
      · intro w'
        go_simp
        with_reducible rfl
      rotate_left
      · simp only [Act.put, List.setIfInBounds_toArray, List.set_cons_zero, List.set_cons_succ, i64_w, i32_w]
        rfl
      refine pure_ (i := 10) (N := some 32) (v := ?_) (a' := ?_) #[true, true, true, true, true, true, true, true, true, true, true, false, true, false, false, false, false, false] rfl rfl (by kernel_rfl) (fun _ _ _ h => h) (Or.inl ⟨by rfl, ?_⟩) ?_ ?_
      rotate_left
      · intro w'
        go_simp
        with_reducible rfl
      rotate_left
      · simp only [Act.put, List.setIfInBounds_toArray, List.set_cons_zero, List.set_cons_succ, i64_w, i32_w]
        rfl
      refine take_ (i := 11) (N := some 33) (v := ?_) (a' := ?_) #[true, true, true, true, true, true, true, true, true, true, true, true, true, false, false, false, false, false] rfl rfl (by kernel_rfl) (fun _ _ _ h => h) (Or.inl ⟨by rfl, ?_⟩) hHeld ?_ ?_
      rotate_left
      · rintro w' ⟨s0, s1, s2⟩
        go_simp
        with_reducible rfl
      rotate_left
      · simp only [Act.put, List.setIfInBounds_toArray, List.set_cons_zero, List.set_cons_succ, i64_w, i32_w]
        rfl
      refine pure_ (i := 13) (N := some 35) (v := ?_) (a' := ?_) #[true, true, true, true, true, true, true, true, true, true, true, true, true, true, false, false, false, false] rfl rfl (by kernel_rfl) (fun _ _ _ h => h) (Or.inl ⟨by rfl, ?_⟩) ?_ ?_
      rotate_left
      · intro w'
        go_simp
        with_reducible rfl
      rotate_left
      · simp only [Act.put, List.setIfInBounds_toArray, List.set_cons_zero, List.set_cons_succ, i64_w, i32_w]
        rfl
      refine pure_ (i := 14) (N := some 36) (v := ?_) (a' := ?_) #[true, true, true, true, true, true, true, true, true, true, true, true, true, true, true, false, false, false] rfl rfl (by kernel_rfl) (fun _ _ _ h => h) (Or.inl ⟨by rfl, ?_⟩) ?_ ?_
      rotate_left
      · intro w'
        go_simp
        with_reducible rfl
      rotate_left
      · simp only [Act.put, List.setIfInBounds_toArray, List.set_cons_zero, List.set_cons_succ, i64_w, i32_w]
        rfl
      refine pure_ (i := 15) (N := some 37) (v := ?_) (a' := ?_) #[true, true, true, true, true, true, true, true, true, true, true, true, true, true, true, true, false, false] rfl rfl (by kernel_rfl) (fun _ _ _ h => h) (Or.inl ⟨by rfl, ?_⟩) ?_ ?_
      rotate_left
      · intro w'
        go_simp
        with_reducible rfl
      rotate_left
      · simp only [Act.put, List.setIfInBounds_toArray, List.set_cons_zero, List.set_cons_succ, i64_w, i32_w]
        rfl
      refine take_ (i := 16) (N := some 38) (v := ?_) (a' := ?_) #[true, true, true, true, true, true, true, true, true, true, true, true, true, true, true, true, true, false] rfl rfl (by kernel_rfl) (fun _ _ _ h => h) (Or.inl ⟨by rfl, ?_⟩) hHeld ?_ ?_
      rotate_left
      · rintro w' ⟨s0, s1, s2⟩
        go_simp
        with_reducible rfl
      rotate_left
      · simp only [Act.put, List.setIfInBounds_toArray, List.set_cons_zero, List.set_cons_succ, i64_w, i32_w]
        rfl
      refine last_ (i := 17) (N := some 39) #[true, true, true, true, true, true, true, true, true, true, true, true, true, true, true, true, true, true] rfl rfl (by kernel_rfl) (by decide) (fun K hK => ?_)
      refine goes_ Try.func95 (by kernel_rfl) rfl #[.pointer (some ⟨w.heap.size, 0, none⟩), .int .u8 (L[k].toNat : Int)] (by rfl) rfl rfl (by simp only [List.map_toArray, List.map_cons, List.map_nil]; rfl) ?_
      with_reducible refine (hwr.out).mono ?_
      rintro e w3 ⟨rfl, hbd, hb3, _⟩
      refine ⟨_, rfl, ?_⟩
      have hB5 := Aside0.mk (hB2.out.trans hb3)
      clear hHeld hb3 hwr hB2
      refine hK.out _ _ ?_
      clear hK K
      refine norm_ (a' := ?_) ?_ ?_
      rotate_left
      · show Act.put _ (some 39) _ = _
        simp only [Act.put, List.setIfInBounds_toArray, List.set_cons_zero, List.set_cons_succ, i64_w, i32_w]
        rfl
      refine done_ (by kernel_rfl) ?_
      replace hbd := Aside0.mk hbd
      rw [← htk.out] at hbd
      clear hw x3 x4
      go_wp2
      go_roundg (gk - 1)
      case measure => omega
      case rel => exact ⟨k + 1, by go_num, by omega, hbd, hB5⟩
    · have d1 : decide ((k : Int) < (m : Int)) = false := decide_eq_false (by omega)
      have d1' : decide (k < m) = false := decide_eq_false hlt
      rw [List.take_of_length_le (by omega)] at hd
      have hst := Try.Builder_String_any w.heap.size w.heap.size L W1 hd.out hB.out.size
      replace hst := Aside0.mk hst
      clear hlt
      go_wp2_with fail
      refine hst.out.mono ?_
      rintro e w5 ⟨rfl, hb5⟩
      replace hb5 := Aside0.mk hb5
      go_wp2
      go_ret
      exact ⟨rfl, hB.out.trans hb5.out⟩
namespace Pl
def kidOf (p q : ByteArray) : Option UInt8 := if q.size = p.size + 1 ∧ (tx q).take p.size = tx p then some ((tx q).getD p.size 0) else none
/-- The bytes by which a state leads on. -/
def kidB (S : List ByteArray) (p : ByteArray) : List UInt8 := S.filterMap (kidOf p)
theorem kidOf_iff (p q : ByteArray) (c : UInt8) : kidOf p q = some c ↔ tx q = tx p ++ [c] := by
  unfold kidOf
  constructor
  · intro h
    split at h
    · rename_i hh
      injection h with h
      have := take_snoc (s := q) (n := p.size) (by omega)
      rw [List.take_of_length_le (by rw [tx_length]; omega), hh.2, h] at this
      exact this
    · cases h
  · intro h
    have hl := congrArg List.length h
    rw [List.length_append, tx_length, tx_length, List.length_singleton] at hl
    rw [if_pos ⟨hl, by rw [h, List.take_left' (tx_length p)]⟩, h]
    simp [List.getD_eq_getElem?_getD, List.getElem?_append_right, tx_length]
theorem filterMap_all {α β : Type} (g : α → Option β) : ∀ (l : List α), (∀ a ∈ l, (g a).isSome = true) → (l.filterMap g).length = l.length ∧ ∀ (k : Nat) (b : β), (l.filterMap g)[k]? = some b → ∃ a, l[k]? = some a ∧ g a = some b
  | [], _ => ⟨rfl, fun k b h => by simp at h⟩
  | a :: l, h => by
    obtain ⟨b, hb⟩ := Option.isSome_iff_exists.1 (h a (by simp))
    obtain ⟨i1, i2⟩ := filterMap_all g l (fun x hx => h x (by simp [hx]))
    rw [List.filterMap_cons_some hb]
    refine ⟨by simp [i1], fun k b' hk => ?_⟩
    cases k with
    | zero => simp at hk; subst hk; exact ⟨a, rfl, hb⟩
    | succ k => simpa using i2 k b' (by simpa using hk)
theorem filterMap_mid {α β : Type} (g : α → Option β) (l : List α) (f m : Nat) (h : f + m ≤ l.length) (hn : ∀ (j : Nat) (a : α), l[j]? = some a → ¬ (f ≤ j ∧ j < f + m) → g a = none) (hs : ∀ (j : Nat) (a : α), l[j]? = some a → f ≤ j → j < f + m → (g a).isSome = true) :
    (l.filterMap g).length = m ∧ ∀ (k : Nat) (b : β), (l.filterMap g)[k]? = some b → ∃ a, l[f + k]? = some a ∧ g a = some b := by
  have e : l.filterMap g = ((l.drop f).take m).filterMap g := by
    have e1 : l = l.take f ++ ((l.drop f).take m ++ (l.drop f).drop m) := by rw [List.take_append_drop, List.take_append_drop]
    have e2 : (l.take f).filterMap g = [] := List.filterMap_eq_nil_iff.2 fun a ha => by
      obtain ⟨j, hj, rfl⟩ := List.getElem_of_mem ha
      rw [List.length_take] at hj
      exact hn j _ (by rw [List.getElem_take, List.getElem?_eq_getElem (by omega)]) (by omega)
    have e3 : ((l.drop f).drop m).filterMap g = [] := List.filterMap_eq_nil_iff.2 fun a ha => by
      obtain ⟨j, hj, rfl⟩ := List.getElem_of_mem ha
      rw [List.length_drop, List.length_drop] at hj
      exact hn (f + (m + j)) _ (by rw [List.getElem_drop, List.getElem_drop, List.getElem?_eq_getElem (by omega)]) (by omega)
    rw [e1, List.filterMap_append, List.filterMap_append, e2, e3, List.nil_append, List.append_nil, ← e1]
  rw [e]
  have hall : ∀ a ∈ (l.drop f).take m, (g a).isSome = true := fun a ha => by
    obtain ⟨j, hj, rfl⟩ := List.getElem_of_mem ha
    rw [List.length_take, List.length_drop] at hj
    exact hs (f + j) _ (by rw [List.getElem_take, List.getElem_drop, List.getElem?_eq_getElem (by omega)]) (by omega) (by omega)
  obtain ⟨i1, i2⟩ := filterMap_all g _ hall
  refine ⟨by rw [i1, List.length_take, List.length_drop]; omega, fun k b hk => ?_⟩
  obtain ⟨a, h1, h2⟩ := i2 k b hk
  refine ⟨a, ?_, h2⟩
  rw [List.getElem?_take] at h1
  split at h1
  · rw [List.getElem?_drop] at h1
    exact h1
  · cases h1
theorem kids_eq {xs S : List ByteArray} {sts : List TS} (T : GoodT xs S sts) {s : Nat} {t : TS} {p : ByteArray} {f m : Nat} (ht : sts[s]? = some t) (hp : S[s]? = some p) (hf : 0 < f) (hle : f + m ≤ sts.length)
    (hk : ∀ (j : Nat) (u : TS), 0 < j → sts[j]? = some u → (u.above = (s : Int) ↔ f ≤ j ∧ j < f + m)) :
    (kidB S p).length = m ∧ ∀ (k : Nat) (h1 : k < (kidB S p).length) (h2 : f + k < sts.length), sts[f + k].by_ = (((kidB S p)[k]).toNat : Int) := by
  have hst : ∀ (j : Nat) (q : ByteArray), S[j]? = some q → ∃ u, sts[j]? = some u := fun j q hq => ⟨_, List.getElem?_eq_getElem (by rw [T.len]; exact (List.getElem?_eq_some_iff.1 hq).1)⟩
  obtain ⟨i1, i2⟩ := filterMap_mid (kidOf p) S f m (by rw [← T.len]; exact hle) (fun j q hq hn => by
      cases e : kidOf p q with
      | none => rfl
      | some c =>
        obtain ⟨u, hu⟩ := hst j q hq
        obtain ⟨g1, g2, _⟩ := (GoodT.kid T ht hp hu hq hk hf c).2 ((kidOf_iff p q c).1 e)
        exact absurd ⟨g1, g2⟩ hn) (fun j q hq h1 h2 => by
      obtain ⟨u, hu⟩ := hst j q hq
      obtain ⟨a, q', b, u1, u2, u3, u4, u5⟩ := T.up j u q (by omega) hu hq
      have e := (GoodT.kid T ht hp hu hq hk hf b).1 ⟨h1, h2, u5⟩
      rw [(kidOf_iff p q b).2 e]
      rfl)
  refine ⟨i1, fun k h1 h2 => ?_⟩
  obtain ⟨q, hq, e⟩ := i2 k _ (List.getElem?_eq_getElem h1)
  have hu := List.getElem?_eq_getElem h2
  exact ((GoodT.kid T ht hp hu hq hk hf _).2 ((kidOf_iff p q _).1 e)).2.2
end Pl
theorem trieBytesS (g : Nat) (xs S : List ByteArray) (sts : List TS) (T : GoodT xs S sts) (s : Nat) (p : ByteArray) (hp : S[s]? = some p) (w : World) (h : TrieAt w g sts) :
    Calls Try.prog 54 #[.pointer (some ⟨g, 0, none⟩), .int .i64 s] w fun e w' => e = .returned (.string ⟨(kidB S p).toArray⟩) ∧ Below w.heap.size w w' := by
  have hs : s < sts.length := by rw [T.len]; exact (List.getElem?_eq_some_iff.1 hp).1
  have hst : sts[s]? = some sts[s] := List.getElem?_eq_getElem hs
  obtain ⟨f, m, h1, h2, h3, h4, h5, h6⟩ := GoodT.kids T hst
  obtain ⟨k1, k2⟩ := kids_eq T hst hp h3 h4 h5
  exact trieBytes g sts s hs w h f m h1 h2 h4 (kidB S p) k1 k2

set_option maxHeartbeats 1000000 in
set_option maxRecDepth 20000 in
theorem trieFindNil (p : ByteArray) (hp : p.size ≤ 140737488351232) (w : World) : Calls Try.prog 56 #[.pointer none, .string p] w fun e w' => e = .returned (.tuple #[.int .i64 0, .bool false]) ∧ w = w' := by
  have hL := trieLenNil w
  have hi := trieIs none 0 0 w hL
  have hn : ∀ c : Int, Calls Try.prog 47 #[.pointer none, .int .i64 0, .int .u8 c] w fun e w' => e = .returned (.tuple #[.int .i64 0, .bool false]) ∧ w = w' := fun c => trieNextNo none 0 0 c (by omega) w hL
  rw [decide_eq_false (show ¬ ((0 : Int) ≤ 0 ∧ (0 : Int) < ((0 : Nat) : Int)) by omega)] at hi
  replace hi := Aside0.mk hi
  replace hn := Aside0.mk hn
  clear hL
  go_enter Try.func56, Try.ntmps56
  go_wp2
  by_cases h0 : p.size = 0
  · have d1 : decide (0 < (p.size : Int)) = false := decide_eq_false (by omega)
    have d1' : decide (0 < p.size) = false := decide_eq_false (by omega)
    clear h0
    go_loopg [6, 12] 1 (fun gh s6 s12 wx => s6 = .int .i64 0 ∧ s12 = .int .i64 0 ∧ wx = w)
    case atStart => exact ⟨rfl, rfl, rfl⟩
    case round =>
      obtain ⟨rfl, rfl, rfl⟩ := hrel
      go_wp2_with fail
      refine hi.out.mono ?_
      rintro e w' ⟨rfl, rfl⟩
      go_wp2
      go_ret2
      exact ⟨rfl, rfl⟩
  · have d1 : decide (0 < (p.size : Int)) = true := decide_eq_true (by omega)
    have d1' : decide (0 < p.size) = true := decide_eq_true (by omega)
    have x1 : (0 < p.size) = True := eq_true (by omega)
    have x2 : ((0 : Int) < (p.size : Int)) = True := eq_true (by omega)
    clear h0
    go_loopg [6, 12] 1 (fun gh s6 s12 wx => s6 = .int .i64 0 ∧ s12 = .int .i64 0 ∧ wx = w)
    case atStart => exact ⟨rfl, rfl, rfl⟩
    case round =>
      obtain ⟨rfl, rfl, rfl⟩ := hrel
      go_wp2_with fail
      refine (hn.out _).mono ?_
      rintro e w' ⟨rfl, rfl⟩
      go_wp2
      go_ret2
      exact ⟨rfl, rfl⟩
theorem beg_zero (p : ByteArray) : beg p 0 = ByteArray.empty := tx_inj (by rw [tx_beg, List.take_zero]; rfl)
theorem beg_all (p : ByteArray) : beg p p.size = p := tx_inj (by rw [tx_beg, List.take_of_length_le (by rw [tx_length]; exact Nat.le_refl _)])
set_option maxHeartbeats 4000000 in
set_option maxRecDepth 20000 in
theorem trieFind (g : Nat) (xs S : List ByteArray) (sts : List TS) (T : GoodT xs S sts) (p : ByteArray) (hp : p.size ≤ 140737488351232) (w : World) (h : TrieAt w g sts) :
    Calls Try.prog 56 #[.pointer (some ⟨g, 0, none⟩), .string p] w fun e w' => ((∃ k : Nat, S[k]? = some p ∧ e = .returned (.tuple #[.int .i64 k, .bool true])) ∨ (p ∉ S ∧ e = .returned (.tuple #[.int .i64 0, .bool false]))) ∧ ∃ n, w' = w.drewN n := by
  replace h := Aside0.mk h
  replace T := Aside0.mk T
  go_enter Try.func56, Try.ntmps56
  go_wp2
  go_loopg [6, 12] p.size (fun gh s6 s12 wx => ∃ (i sc n : Nat), s6 = .int .i64 sc ∧ s12 = .int .i64 i ∧ i + gh = p.size ∧ Aside0 (S[sc]? = some (beg p i)) ∧ wx = w.drewN n)
  case atStart => exact ⟨0, 0, 0, rfl, rfl, by omega, ⟨by rw [beg_zero]; exact T.out.root⟩, rfl⟩
  case round =>
    obtain ⟨i, sc, n, rfl, rfl, hi, hsc, rfl⟩ := hrel
    have hT := h.out.drewN n
    by_cases hlt : i < p.size
    · have d1 : decide ((i : Int) < (p.size : Int)) = true := decide_eq_true (by omega)
      have d1' : decide (i < p.size) = true := decide_eq_true hlt
      have x1 : (i < p.size) = True := eq_true hlt
      have x2 : ((i : Int) < (p.size : Int)) = True := eq_true (by omega)
      have x3 : ((0 : Int) ≤ (i : Int)) = True := eq_true (by omega)
      have hnx := trieNextS g xs S sts T.out sc _ hsc.out (p[i]'hlt) _ hT
      have htb : ∀ q, tx q = tx (beg p i) ++ [p[i]'hlt] → q = beg p (i + 1) := fun q hq => tx_inj (by
        rw [hq, tx_beg, tx_beg, take_snoc hlt, tx_get, List.getD_eq_getElem?_getD, List.getElem?_eq_getElem (by rw [tx_length]; exact hlt)]
        rfl)
      replace hnx := Aside0.mk hnx
      replace htb := Aside0.mk htb
      clear hT
      go_wp2_with fail
      refine hnx.out.mono ?_
      rintro e w' ⟨he, n2, rfl⟩
      rcases he with ⟨k, q, g1, g2, rfl⟩ | ⟨g1, rfl⟩
      · have hq := htb.out q g2
        subst hq
        replace g1 := Aside0.mk g1
        clear hnx htb g2
        go_wp2
        go_roundg (gk - 1)
        case measure => omega
        case rel => exact ⟨i + 1, k, n + n2, rfl, by go_num, by omega, g1, by first | rfl | simp [World.drewN] | (simp; done)⟩
      · have hno : Aside0 (p ∉ S) := ⟨fun hm => by
          have hb := GoodT.beg T.out p.size p hm rfl (i + 1) (by omega)
          exact g1 _ (by
            rw [tx_beg, tx_beg, take_snoc hlt, tx_get, List.getD_eq_getElem?_getD, List.getElem?_eq_getElem (by rw [tx_length]; exact hlt)]
            rfl) hb⟩
        clear hnx htb g1
        go_wp2
        go_ret2
        exact ⟨.inr ⟨hno.out, rfl⟩, n + n2, by first | rfl | simp⟩
    · have d1 : decide ((i : Int) < (p.size : Int)) = false := decide_eq_false (by omega)
      have d1' : decide (i < p.size) = false := decide_eq_false hlt
      obtain rfl : i = p.size := by omega
      have hs : sc < sts.length := by rw [T.out.len]; exact (List.getElem?_eq_some_iff.1 hsc.out).1
      have his := trieIs _ _ sc _ (trieLen g sts _ hT)
      rw [decide_eq_true (show (0 : Int) ≤ sc ∧ (sc : Int) < sts.length by omega)] at his
      have hsc2 : Aside0 (S[sc]? = some p) := ⟨by have := hsc.out; rwa [beg_all] at this⟩
      replace his := Aside0.mk his
      clear hsc hT hlt hs
      go_wp2_with fail
      refine his.out.mono ?_
      rintro e w' ⟨rfl, rfl⟩
      go_wp2
      go_ret2
      exact ⟨.inl ⟨sc, hsc2.out, rfl⟩, n, rfl⟩
end Go.Proofs.Ythgjckibnojnpaa
namespace Go.Proofs.Ythgjckibnojnpaa
open Go.RowKit Go.Proofs.YthgjckibnojnpaaW.PrintWords Go.Proofs.YthgjckibnojnpaaW.PrintLast Pl

namespace Pl
theorem kidB_snoc (S : List ByteArray) (p : ByteArray) (k : Nat) (hk : k < S.length) : kidB (S.take (k + 1)) p = kidB (S.take k) p ++ (kidOf p S[k]).toList := by
  unfold kidB
  rw [List.take_succ_eq_append_getElem hk, List.filterMap_append]
  cases h : kidOf p S[k] <;> simp [h]
theorem kidB_le (S : List ByteArray) (p : ByteArray) (k : Nat) : (kidB (S.take k) p).length ≤ k := by
  unfold kidB
  refine Nat.le_trans (List.length_filterMap_le _ _) ?_
  rw [List.length_take]
  omega
theorem byt_snoc (l : List UInt8) (c : UInt8) : byt (l ++ [c]) = byt l ++ [(c.toNat : Int)] := by simp [byt]
theorem ext_iff (q p : ByteArray) : ((q.extract 0 p.size).toList = p.toList) ↔ (tx q).take p.size = tx p := by
  have e : beg q p.size = q.extract 0 p.size := rfl
  rw [toList_inj, ← e]
  constructor
  · intro h
    have h2 := congrArg tx h
    rwa [tx_beg] at h2
  · intro h
    exact tx_inj (by rw [tx_beg]; exact h)
theorem strOf_list (l : List UInt8) : strOfNums (byt l) = ⟨l.toArray⟩ := by
  unfold strOfNums byt
  simp [List.map_map, Function.comp_def]
end Pl
set_option maxHeartbeats 4000000 in
set_option maxRecDepth 20000 in
theorem refBytes16 (A : Option Addr) (c : Nat) (S : List ByteArray) (s : Nat) (hs : s < S.length) (hfit : ∀ q ∈ S, q.size ≤ 16777217) (hS : S.length ≤ 16777217) (w : World) (hr : Kd.C Kd.string w A S.length S) :
    Calls Try.prog 55 #[.slice A S.length c, .int .i64 s] w fun e w' => e = .returned (.string ⟨(kidB S S[s]).toArray⟩) ∧ Below w.heap.size w w' := by
  obtain ⟨ad, ea, hcs0⟩ := Kd.at_string hr (s : Int) (by omega) (by omega)
  subst ea
  have hcs : w.cell? (ad.add s) = some (.string S[s]) := by
    simpa [rdOf, List.getD_eq_getElem?_getD, List.getElem?_eq_getElem hs] using hcs0
  have hps := hfit _ (List.getElem_mem hs)
  have hblk := World.block_lt_of_cell? w _ hcs
  generalize hp : S[s] = p at hcs hps
  replace hp := Aside0.mk hp
  replace hr := Aside0.mk hr
  replace hfit := Aside0.mk hfit
  have hcsW : ∀ W', Below w.heap.size w W' → W'.cell? (ad.add s) = some (.string p) := fun W' hb => (hb.cell hblk).trans hcs
  replace hcsW := Aside0.mk hcsW
  have x1 : ((0 : Int) ≤ (s : Int)) = True := eq_true (by omega)
  have x2 : ((s : Int) < (S.length : Int)) = True := eq_true (by omega)
  clear hcs0 hcs hblk
  have hown : (w.alloc (.cells #[] 5)).ownsRow w.heap.size 5 1 (.slice (some ⟨w.heap.size, 0, none⟩) 0 0) 0 (nums .u8 []) := own_lit w w.heap.size 5 .u8 [] (Nat.le_refl _) (by simp)
  have hR0 : Kd.R (Kd.int .u8) 5 (w.alloc (.cells #[] 5)) w.heap.size (fun _ => True) (.slice (some ⟨w.heap.size, 0, none⟩) 0 0) (byt (kidB (S.take 0) p)) := Kd.R_of_own hown (fun _ _ => trivial)
  have hB0 : Below w.heap.size w (w.alloc (.cells #[] 5)) := (Below.refl _ _).alloc (Nat.le_refl _) _
  replace hR0 := Aside0.mk hR0
  replace hB0 := Aside0.mk hB0
  clear hown
  go_enter Try.func55, Try.ntmps55
  go_wp2
  go_loopg [5, 6] S.length (fun gh s5 s6 wx => ∃ (i : Nat), s6 = .int .i64 i ∧ i + gh = S.length ∧ Aside0 (Kd.R (Kd.int .u8) 5 wx w.heap.size (fun _ => True) s5 (byt (kidB (S.take i) p))) ∧ Aside0 (Below w.heap.size w wx))
  case atStart => exact ⟨0, rfl, by omega, hR0, hB0⟩
  case round =>
    clear hR0 hB0
    obtain ⟨i, rfl, hi, hR, hB⟩ := hrel
    rename World => W1
    by_cases hlt : i < S.length
    · have d1 : decide ((i : Int) < (S.length : Int)) = true := decide_eq_true (by omega)
      have d1' : decide (i < S.length) = true := decide_eq_true hlt
      have y1 : ((0 : Int) ≤ (i : Int)) = True := eq_true (by omega)
      have y2 : ((i : Int) < (S.length : Int)) = True := eq_true (by omega)
      obtain ⟨ad', ea, hci0⟩ := Kd.at_string (Kd.C_below hr.out hB.out) (i : Int) (by omega) (by omega)
      injection ea with ea
      subst ea
      have hci : W1.cell? (ad.add i) = some (.string S[i]) := by
        simpa [rdOf, List.getD_eq_getElem?_getD, List.getElem?_eq_getElem hlt] using hci0
      have hblk := World.block_lt_of_cell? W1 _ hci
      have hqs := hfit.out _ (List.getElem_mem hlt)
      have hsn := kidB_snoc S p i hlt
      have hle := kidB_le S p i
      clear hci0
      generalize S[i] = q at hci hqs hsn
      have hcs := hcsW.out _ hB.out
      replace hsn := Lib.hid hsn
      by_cases e1 : q.size = p.size + 1
      · have b1 : (((q.size : Nat) : Int) == (p.size : Int) + 1) = true := by simp; omega
        have b1' : (q.size == p.size + 1) = true := by simpa using e1
        have hex : ((q.extract 0 p.size).toList = p.toList) ↔ (tx q).take p.size = tx p := by
          exact ext_iff q p
        have hn : p.size < q.size := by omega
        by_cases e2 : (tx q).take p.size = tx p
        · have b2 : ((q.extract 0 p.size).toList == p.toList) = true := beq_iff_eq.2 (hex.2 e2)
          have hk1 : kidOf p q = some (q[p.size]'hn) := by
            unfold kidOf
            rw [if_pos ⟨e1, e2⟩, tx_get, List.getD_eq_getElem?_getD, List.getElem?_eq_getElem (by rw [tx_length]; exact hn)]
            rfl
          rw [hk1] at hsn
          have hsn2 : byt (kidB (S.take (i + 1)) p) = byt (kidB (S.take i) p) ++ [((q[p.size]'hn).toNat : Int)] := by rw [hsn.out, Option.toList_some, byt_snoc]
          replace hsn2 := Lib.hid hsn2
          replace hk1 := Lib.hid hk1
          replace e1 := Aside0.mk e1
          replace e2 := Aside0.mk e2
          replace hex := Aside0.mk hex
          have y5 : (p.size < q.size) = True := eq_true hn
          have y6 : ((p.size : Int) < (q.size : Int)) = True := eq_true (by omega)
          clear hsn
          go_upto_region 6 with fail
          go_quiet (fail)
          have hR2 := Kd.R_drewN hR.out nq
          have hB2 := below_drewN' hB.out nq
          have hci2 : (W1.drewN nq).cell? (ad.add i) = some (.string q) := hci
          clear hci hcs hR hB
          generalize W1.drewN nq = W2 at hR2 hB2 hci2 ⊢
          replace hR2 := Aside0.mk hR2
          replace hB2 := Aside0.mk hB2
          have hll : (byt (kidB (S.take i) p)).length ≤ i := by simp only [byt, List.length_map]; exact hle
          go_wp2_with ((with_reducible refine gate_builtin (b := .append) (xs := #[.tmp 41, .tmp 48]) rfl ?_); (try (refine gate_guard (by rfl) ?_; dsimp only)); at_builtin; refine Kd.R_append (Kd.int .u8) (w0 := w) w.heap.size rfl (.tmp 41) (.tmp 48) 66 5 (.int .u8 0) 1 rfl Try.underlying66 PA.info5 rfl (by decide) (by omega) u5 (byt (kidB (S.take i) p)) ((q[p.size]'hn).toNat : Int) [.int .u8 ((q[p.size]'hn).toNat : Int)] (fun _ => True) (fun _ => False) rfl rfl ?aP (fun _ hk => hk.elim) ?aF ?aO ?aB ?aS ?aL ?_; (case aP => exact rfl); (case aF => exact (fun _ _ => trivial)); (case aO => exact hR2.out); (case aB => exact hB2.out); (case aS => exact hB2.out.size); (case aL => omega); intro v1 w1 ho hb hg hat; rw [← hsn2.out] at ho; replace ho := Aside0.mk ho; replace hb := Aside0.mk hb; clear hg hat hB2 hR2 hci2)
          go_roundg (gk - 1)
          case measure => omega
          case rel => exact ⟨i + 1, by go_num, by omega, ho, hb⟩
        · have b2 : ((q.extract 0 p.size).toList == p.toList) = false := by
            refine beq_eq_false_iff_ne.2 ?_
            exact fun h => e2 (hex.1 h)
          have hk0 : kidOf p q = none := if_neg (fun h => e2 h.2)
          rw [hk0] at hsn
          replace hk0 := Lib.hid hk0
          replace e1 := Aside0.mk e1
          replace e2 := Aside0.mk e2
          replace hex := Aside0.mk hex
          go_upto_region 6 with fail
          go_quiet (fail)
          go_wp2
          go_roundg (gk - 1)
          case measure => omega
          case rel => exact ⟨i + 1, by go_num, by omega, ⟨by rw [hsn.out, Option.toList_none, List.append_nil]; exact Kd.R_drewN hR.out _⟩, ⟨below_drewN' hB.out _⟩⟩
      · have b1 : (((q.size : Nat) : Int) == (p.size : Int) + 1) = false := by simp; omega
        have b1' : (q.size == p.size + 1) = false := by simpa using e1
        have hk0 : kidOf p q = none := if_neg (fun h => e1 h.1)
        rw [hk0] at hsn
        replace hk0 := Lib.hid hk0
        replace e1 := Aside0.mk e1
        go_upto_region 6 with fail
        go_quiet (fail)
        go_wp2
        go_roundg (gk - 1)
        case measure => omega
        case rel => exact ⟨i + 1, by go_num, by omega, ⟨by rw [hsn.out, Option.toList_none, List.append_nil]; exact Kd.R_drewN hR.out _⟩, ⟨below_drewN' hB.out _⟩⟩
    · have d1 : decide ((i : Int) < (S.length : Int)) = false := decide_eq_false (by omega)
      have d1' : decide (i < S.length) = false := decide_eq_false hlt
      obtain rfl : i = S.length := by omega
      rw [List.take_length] at hR
      have hcv := own_string (P := Try.prog) (dst := 9) Try.underlying66 Try.underlying5 Try.underlying9 (Kd.own_of_R hR.out)
      rw [strOf_list] at hcv
      clear hlt
      go_wp2
      go_ret
      exact ⟨rfl, hB.out⟩
end Go.Proofs.Ythgjckibnojnpaa
