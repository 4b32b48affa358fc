/- The bytes of a set. -/
import Derived.Test.YthgjckibnojnpaaBuild
import Derived.Test.YthgjckibnojnpaaVarAll
import Derived.Test.YthgjckibnojnpaaAffix
import Derived.Test.YthgjckibnojnpaaSetM
import Derived.Test.YthgjckibnojnpaaLit
set_option linter.unusedVariables false
set_option linter.unusedSimpArgs false
namespace Go.Proofs.Ythgjckibnojnpaa
open Go.RowKit Go.Proofs.YthgjckibnojnpaaW.PrintWords Pl

namespace Pl
def putB (n : Nat) : List UInt8 := (putV n).data.toList
def ahd (xs : List ByteArray) (k : Nat) : ByteArray := if k = 0 then ByteArray.empty else xs.getD (k - 1) ByteArray.empty
def shp (xs : List ByteArray) (k : Nat) : Nat := pre (tx (ahd xs k)) (tx (xs.getD k ByteArray.empty))
def headB : List UInt8 := [106, 117, 114, 97, 116, 1]
def bookTo (xs : List ByteArray) : Nat → List UInt8
  | 0 => headB ++ putB xs.length
  | k + 1 => bookTo xs k ++ (putB (shp xs k) ++ putB ((xs.getD k ByteArray.empty).size - shp xs k)) ++ (xs.getD k ByteArray.empty).data.toList.drop (shp xs k)
theorem putB_length (n : Nat) : (putB n).length ≤ n + 1 := by
  have := putL_length n
  unfold putB
  rw [data_length, putV_size]
  exact this
theorem shp_le (xs : List ByteArray) (k : Nat) : shp xs k ≤ (xs.getD k ByteArray.empty).size := by
  have := (pre_le (tx (ahd xs k)) (tx (xs.getD k ByteArray.empty))).2
  rw [tx_length] at this
  exact this
theorem bookTo_le (xs : List ByteArray) (hl : xs.length ≤ 65535) (hs : ∀ s ∈ xs, s.size ≤ 65535) (k : Nat) (hk : k ≤ xs.length) : (bookTo xs k).length ≤ 65542 + k * 200000 := by
  induction k with
  | zero =>
    have := putB_length xs.length
    simp only [bookTo, List.length_append, headB, List.length_cons, List.length_nil]
    omega
  | succ k ih =>
    have h1 := ih (by omega)
    have h2 := putB_length (shp xs k)
    have h3 := putB_length ((xs.getD k ByteArray.empty).size - shp xs k)
    have h4 := shp_le xs k
    have h5 : (xs.getD k ByteArray.empty).size ≤ 65535 := by
      rw [List.getD_eq_getElem?_getD, List.getElem?_eq_getElem (by omega)]
      exact hs _ (List.getElem_mem _)
    simp only [bookTo, List.length_append, List.length_drop, data_length]
    omega
theorem extract_data (s : ByteArray) (k : Nat) : (s.extract k s.size).data.toList = s.data.toList.drop k := by
  rw [ByteArray.data_extract, Array.toList_extract]
  show (s.data.toList.drop k).take (s.size - k) = _
  exact List.take_of_length_le (by rw [List.length_drop, data_length]; omega)
theorem putLs_two (a b : Nat) : (strOfNums (putLs [a, b])).data.toList = putB a ++ putB b := by
  simp [putLs, putB, putV, strOfNums_data]
end Pl

set_option maxHeartbeats 2000000 in
theorem bookPut (v : Value) (xs : List ByteArray) (w : World) (h : SetV w v xs) (hne : xs ≠ []) (hl : xs.length ≤ 65535) (hs : ∀ s ∈ xs, s.size ≤ 65535) :
    Calls Try.prog 37 #[v] w fun e w' => e = .returned (.string ⟨(bookTo xs xs.length).toArray⟩) ∧ Below w.heap.size w w' := by
  rcases h with ⟨_, h⟩ | ⟨g, rfl, hS, _⟩
  · exact absurd h hne
  have hb0 : Below w.heap.size w (w.alloc (.cells #[.pointer none, .slice none 0 0] 112)) := (Below.refl _ _).alloc (Nat.le_refl _) _
  have hS1 : SetV _ (.pointer (some ⟨g, 0, none⟩)) xs := .inr ⟨g, rfl, hS.below hb0, hne⟩
  have hBd := Bd.new w
  have h1 := setLen _ xs _ hS1
  have hlt := bookTo_le xs hl hs
  go_enter Try.func37, Try.ntmps37
  go_wp2_with fail
  refine h1.mono ?_
  rintro e w' ⟨rfl, rfl⟩
  replace hS1 := Aside0.mk hS1
  replace hBd := Aside0.mk hBd
  replace hb0 := Aside0.mk hb0
  clear h1
  replace hS := Aside0.mk hS
  go_wp2_with fail
  refine (putAny xs.length (by omega) _).mono ?_
  rintro e w2 ⟨rfl, hb2⟩
  have hsz := putV_size xs.length
  have hsz2 := putL_length xs.length
  go_wp2_with fail
  refine (writeString w.heap.size w.heap.size [] _ _ (hBd.out.below hb2) (by rw [ByteArray.size_append, hsz]; simp [ByteArray.size]; omega) (by have := hb0.out.size; have := hb2.size; simp at *; omega)).mono ?_
  rintro e w3 ⟨rfl, hd3, hb3, hk3⟩
  have hd0 : Bd w.heap.size w.heap.size (bookTo xs 0) w3 := by
    rw [show bookTo xs 0 = [] ++ ((⟨#[106, 117, 114, 97, 116, 1]⟩ : ByteArray) ++ putV xs.length).data.toList from by simp [bookTo, putB, headB]]
    exact hd3
  have hb03 : Below w.heap.size w w3 := (Below.then_ hb0.out hb2).trans hb3
  have hS3 : SetV w3 (.pointer (some ⟨g, 0, none⟩)) xs := .inr ⟨g, rfl, hS.out.below hb03, hne⟩
  clear hd3 hsz hsz2 hb2 hb3 hk3 hb0 hBd hS1 hS
  replace hd0 := Aside0.mk hd0
  replace hb03 := Aside0.mk hb03
  go_wp2_with fail
  refine (setList _ xs w3 hS3 (by omega)).mono ?_
  rintro e w4 ⟨u, rfl, hR, hb4⟩
  have hd4 := Aside0.mk (hd0.out.below hb4)
  have hR4 : Kd.R Kd.string 9 w4 w.heap.size (fun k => k ≠ w.heap.size) u xs := Kd.R_lower (Kd.R_mono (Kd.R_bound hR) (fun k hk => by have := hk.2.1; have := hd0.out.elim (fun k => k.lt) (fun k => k.lt); omega)) hb03.out.size
  have hb04 := Aside0.mk (Below.then_ hb03.out hb4)
  obtain ⟨A, c, rfl⟩ := Kd.R_slice hR4
  have hlen := (Sl.of_R hR4).len
  replace hR4 := Aside0.mk hR4
  clear hR hb4 hd0 hb03 hS3
  go_wp2
  go_loopw [4, 18] (fun a i wr => ∃ (k : Nat), k ≤ xs.length ∧ i = .int .i64 k ∧ a = .string (ahd xs k) ∧ Aside0 (Bd w.heap.size w.heap.size (bookTo xs k) wr) ∧ Aside0 (Kd.R Kd.string 9 wr w.heap.size (fun k => k ≠ w.heap.size) (.slice A xs.length c) xs) ∧ Aside0 (Below w.heap.size w wr)) (fun _ i _ => xs.length - (intOf i).toNat)
  case atStart => exact ⟨0, by omega, rfl, rfl, hd4, hR4, hb04⟩
  case round =>
    clear hd4 hR4 hb04
    obtain ⟨k, hk, rfl, rfl, hd, hR, hB⟩ := hrel
    have hbl := hlt k hk
    by_cases hk2 : k < xs.length
    · have d1 : decide ((k : Int) < xs.length) = true := by simp; omega
      obtain ⟨ad, e, hcell0⟩ := Kd.at_string (Kd.R_reads' hR.out).2.2 (k : Int) (by omega) (by omega)
      cases e
      have hcell : wr.cell? (ad.add k) = some (.string xs[k]) := by
        simpa [rdOf, List.getD_eq_getElem?_getD, List.getElem?_eq_getElem hk2] using hcell0
      have hsk := hs xs[k] (List.getElem_mem hk2)
      have hgk : xs.getD k ByteArray.empty = xs[k] := by rw [List.getD_eq_getElem?_getD, List.getElem?_eq_getElem hk2]; rfl
      have hsh := shp_le xs k
      have hbk : bookTo xs (k + 1) = bookTo xs k ++ (putB (shp xs k) ++ putB (xs[k].size - shp xs k)) ++ xs[k].data.toList.drop (shp xs k) := by rw [bookTo, hgk]
      have hah : ahd xs (k + 1) = xs[k] := by unfold ahd; rw [if_neg (by omega), Nat.add_sub_cancel, hgk]
      have hpre : pre (tx (ahd xs k)) (tx xs[k]) = shp xs k := by unfold shp; rw [hgk]
      have hahs : (ahd xs k).size ≤ 65535 := by
        unfold ahd
        split
        · decide
        · rw [List.getD_eq_getElem?_getD, List.getElem?_eq_getElem (by omega)]
          exact hs _ (List.getElem_mem _)
      rw [hgk] at hsh
      clear hcell0
      generalize xs[k] = s at hcell hsk hsh hbk hah hpre
      generalize shp xs k = p at hsh hbk hpre
      generalize ahd xs k = q at hpre hahs ⊢
      replace hbk := Lib.hid hbk
      replace hah := Lib.hid hah
      replace hgk := Lib.hid hgk
      go_wp2_with fail
      refine (prefix_any q s _ (by omega) (by omega)).mono ?_
      rw [hpre]
      rintro e w' ⟨rfl, n, rfl⟩
      have hdr : Below wr.heap.size wr (wr.drewN n) := below_drewN' (Below.refl _ _) n
      have hd2 := hd.out.below hdr
      have hR2 := Kd.R_below hR.out hdr
      have hB2 := Below.then_ hB.out hdr
      clear hd hR hB hdr hcell hpre
      generalize wr.drewN n = W at hd2 hR2 hB2 ⊢
      have e1 : IntKind.i64.wrap ((s.size : Int) - p) = ((s.size - p : Nat) : Int) := by rw [IntKind.wrap_i64]; omega
      have hC := litC (Value.int .i64) (fun _ => rfl) W 3 [(p : Int), ((s.size - p : Nat) : Int)] (by simp)
      have ha := allAny (some ⟨W.heap.size, 0, none⟩) 2 [p, s.size - p] _ hC (fun n hn => by simp at hn; omega) (by simp)
      have hal : Below W.heap.size W (W.alloc (.cells #[.int .i64 (p : Int), .int .i64 ((s.size - p : Nat) : Int)] 3)) := (Below.refl _ _).alloc (Nat.le_refl _) _
      have hd3 := Aside0.mk (hd2.below hal)
      have hR3 := Aside0.mk (Kd.R_below hR2 hal)
      have hB3 := Aside0.mk (Below.then_ hB2 hal)
      clear hd2 hR2 hB2 hal hC
      generalize hm : s.size - p = m at e1 ha hd3 hR3 hB3
      go_wp2_with fail
      refine ha.mono ?_
      rintro e w5 ⟨rfl, hb5⟩
      have hd5 := hd3.out.below hb5
      have hR5 := Kd.R_below hR3.out hb5
      have hB5 := Below.then_ hB3.out hb5
      have hls := putLs_le [p, m] (fun n hn => by simp at hn; omega)
      have hs5 := strOfNums_size (putLs [p, m])
      have htwo := putLs_two p m
      generalize strOfNums (putLs [p, m]) = s5 at hs5 htwo ⊢
      simp only [List.length_cons, List.length_nil] at hls
      clear hd3 hR3 hB3 hb5 ha e1
      have hB5' := Aside0.mk hB5
      have hR5' := Aside0.mk hR5
      have hd5' := Aside0.mk hd5
      clear hB5 hR5 hd5
      go_wp2_with fail
      refine (writeString w.heap.size w.heap.size _ s5 _ hd5'.out (by omega) hB5'.out.size).mono ?_
      rintro e w6 ⟨rfl, hd6, hb6, hk6⟩
      have hR6 := Aside0.mk (strs_others hR5'.out hk6 (fun _ h => h))
      have hB6 := Aside0.mk (hB5'.out.trans hb6)
      rw [htwo] at hd6
      replace hd6 := Aside0.mk hd6
      clear hB5' hR5' hd5' hb6 hk6
      have d2 : decide ((p : Int) ≤ s.size) = true := by simp; omega
      have hl5 : (putB p ++ putB m).length = s5.size := by rw [← htwo, data_length]
      go_wp2_with fail
      refine (writeString w.heap.size w.heap.size _ _ _ hd6.out (by rw [List.length_append, hl5, ByteArray.size_extract]; omega) hB6.out.size).mono ?_
      rintro e w7 ⟨rfl, hd7, hb7, hk7⟩
      have hR7 := Aside0.mk (strs_others hR6.out hk7 (fun _ h => h))
      have hB7 := Aside0.mk (hB6.out.trans hb7)
      rw [extract_data, ← hm, ← hbk.out] at hd7
      replace hd7 := Aside0.mk hd7
      clear hd6 hR6 hB6 hb7 hk7
      go_wp2
      exact ⟨⟨k + 1, by omega, by go_num, by rw [hah.out], hd7, hR7, hB7⟩, by simp [intOf]; omega⟩
    · have d1 : decide ((k : Int) < xs.length) = false := by simp; omega
      obtain rfl : k = xs.length := by omega
      have hst := Try.Builder_String_any w.heap.size w.heap.size _ wr hd.out hB.out.size
      replace hd := Aside0.mk hd
      clear hbl hlt
      go_wp2_with fail
      refine hst.mono ?_
      rintro e w5 ⟨rfl, hb5⟩
      replace hb5 := Aside0.mk (hB.out.trans hb5)
      go_wp2
      go_ret
      exact ⟨rfl, hb5.out⟩
end Go.Proofs.Ythgjckibnojnpaa
