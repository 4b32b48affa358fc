/- The walks of package affix: what its functions compute, each called once and for all. -/
import Derived.Test.YthgjckibnojnpaaProg
import Derived.Test.YthgjckibnojnpaaOrd
import Derived.WalkKit
import Derived.WalkSpells
import Derived.Deep.QuietTactic
import Derived.BigQuiet
import Derived.Lib.Hide
set_option linter.unusedVariables false
set_option linter.unusedSimpArgs false
namespace Go.Proofs.Ythgjckibnojnpaa
open Go.RowKit Pl

theorem tx_get? (s : ByteArray) (i : Nat) (h : i < s.size) : (tx s)[i]? = some s[i] := by
  rw [tx_get s i h, List.getElem?_eq_getElem]

theorem pre_round {a b : ByteArray} {i : Nat} (ha : i < a.size) (hb : i < b.size) (h : ∀ j, j < i → (tx a)[j]? = (tx b)[j]?) (he : (a[i].toNat : Int) = b[i].toNat) :
    ∀ j, j < i + 1 → (tx a)[j]? = (tx b)[j]? := by
  intro j hj
  by_cases e : j = i
  · subst e
    rw [tx_get? a j ha, tx_get? b j hb, UInt8.toNat_inj.1 (Int.ofNat_inj.1 he)]
  · exact h j (by omega)
theorem pre_out {a b : ByteArray} {i : Nat} (ha : i ≤ a.size) (hb : i ≤ b.size) (h : ∀ j, j < i → (tx a)[j]? = (tx b)[j]?) (he : ∀ (p : i < a.size) (q : i < b.size), ¬ (a[i].toNat : Int) = b[i].toNat) : pre (tx a) (tx b) = i := by
  refine pre_eq _ _ _ (by rw [tx_length]; exact ha) (by rw [tx_length]; exact hb) h ?_
  intro p q e
  rw [tx_length] at p q
  rw [tx_get? a i p, tx_get? b i q] at e
  injection e with e
  exact he p q (by rw [e])

theorem ret_int {k : IntKind} {a b : Int} (h : a = b) : Ending.returned (.int k a) = .returned (.int k b) := by rw [h]

set_option maxHeartbeats 1000000 in
theorem prefix_any (a b : ByteArray) (w : World) (ha : a.size ≤ 140737488351232) (hb : b.size ≤ 140737488351232) :
    Calls Try.prog 87 #[.string a, .string b] w fun e w' => e = .returned (.int .i64 (pre (tx a) (tx b))) ∧ ∃ n, w' = w.drewN n := by
  go_enter Try.func87, Try.ntmps87
  rcases Nat.lt_or_ge b.size a.size with hc | hc
  all_goals
    go_wp2
    go_loopw [13] (fun i wr => ∃ k q : Nat, k ≤ a.size ∧ k ≤ b.size ∧ i = .int .i64 k ∧ wr = w.drewN q ∧ Hid (∀ j, j < k → (tx a)[j]? = (tx b)[j]?)) (fun i _ => a.size - (intOf i).toNat)
    case atStart => exact ⟨0, 0, by omega, by omega, rfl, rfl, fun j hj => by omega⟩
    case round =>
      obtain ⟨k, q, hka, hkb, rfl, rfl, hs⟩ := hrel
      by_cases hlt : k < a.size ∧ k < b.size
      · obtain ⟨h1, h2⟩ := hlt
        by_cases hne : (a[k].toNat : Int) = b[k].toNat
        · have H := Lib.hid hne
          have e1 : ((a[k].toNat : Int) != b[k].toNat) = false := by rw [H.out]; simp
          clear hne
          go_wp2
          go_quiet (fail)
          go_wp2
          exact ⟨⟨k + 1, _, by omega, by omega, by go_num, rfl, pre_round h1 h2 hs.out H.out⟩, by simp [intOf]; omega⟩
        · have H := Lib.hid hne
          have e1 : ((a[k].toNat : Int) != b[k].toNat) = true := by rw [bne_iff_ne]; exact H.out
          clear hne
          go_wp2
          go_quiet (fail)
          go_wp2
          go_ret
          exact ⟨ret_int (by rw [pre_out hka hkb hs.out (fun _ _ => H.out)]), _, World.drewN_drewN _ _ _⟩
      · have H := Lib.hid hlt
        by_cases hk : k < a.size
        · have hk' : ¬ k < b.size := fun h => hlt ⟨hk, h⟩
          clear hlt
          first
            | (exfalso; omega)
            | (go_wp2
               go_ret
               exact ⟨ret_int (by rw [pre_out hka hkb hs.out (fun p q => absurd ⟨p, q⟩ H.out)]; omega), q, rfl⟩)
        · clear hlt
          first
            | (exfalso; omega)
            | (go_wp2
               go_ret
               exact ⟨ret_int (by rw [pre_out hka hkb hs.out (fun p q => absurd ⟨p, q⟩ H.out)]; omega), q, rfl⟩)

/-! Compare: every test is decided ahead of the walk. -/
theorem cmp_same {a b : ByteArray} (h1 : pre (tx a) (tx b) = a.size) (h2 : pre (tx a) (tx b) = b.size) : cmpS (tx a) (tx b) = 0 := by
  unfold cmpS
  rw [if_pos ⟨by rw [tx_length]; exact h1, by rw [tx_length]; exact h2⟩]
theorem cmp_low1 {a b : ByteArray} (h1 : pre (tx a) (tx b) = a.size) (h2 : pre (tx a) (tx b) ≠ b.size) : cmpS (tx a) (tx b) = -1 := by
  unfold cmpS
  rw [if_neg (by rw [tx_length, tx_length]; exact fun h => h2 h.2), if_pos (.inl (by rw [tx_length]; exact h1))]
theorem tx_getD (a : ByteArray) (k : Nat) (h : k < a.size) : (tx a).getD k 0 = a[k] := by
  rw [List.getD_eq_getElem?_getD, tx_get? a k h]; rfl
theorem cmp_low2 {a b : ByteArray} (k : Nat) (hk : pre (tx a) (tx b) = k) (h1 : k < a.size) (h2 : k < b.size) (h3 : (a[k].toNat : Int) < b[k].toNat) : cmpS (tx a) (tx b) = -1 := by
  unfold cmpS
  rw [hk, tx_length, tx_length, if_neg (fun h => by omega), if_pos (.inr ⟨h2, by rw [tx_getD a k h1, tx_getD b k h2, UInt8.lt_iff_toNat_lt]; omega⟩)]
theorem cmp_high1 {a b : ByteArray} (k : Nat) (hk : pre (tx a) (tx b) = k) (h1 : k < a.size) (h2 : ¬ k < b.size) : cmpS (tx a) (tx b) = 1 := by
  unfold cmpS
  rw [hk, tx_length, tx_length, if_neg (fun h => by omega), if_neg (fun h => by omega)]
theorem cmp_high2 {a b : ByteArray} (k : Nat) (hk : pre (tx a) (tx b) = k) (h1 : k < a.size) (h2 : k < b.size) (h3 : ¬ (a[k].toNat : Int) < b[k].toNat) : cmpS (tx a) (tx b) = 1 := by
  unfold cmpS
  rw [hk, tx_length, tx_length, if_neg (fun h => by omega), if_neg (fun h => ?_)]
  rcases h with h | ⟨_, h⟩
  · omega
  · rw [tx_getD a k h1, tx_getD b k h2, UInt8.lt_iff_toNat_lt] at h; omega

set_option maxHeartbeats 1000000 in
theorem compare_any (a b : ByteArray) (w : World) (ha : a.size ≤ 140737488351232) (hb : b.size ≤ 140737488351232) :
    Calls Try.prog 111 #[.string a, .string b] w fun e w' => e = .returned (.int .i64 (cmpS (tx a) (tx b))) ∧ ∃ n, w' = w.drewN n := by
  have hp := prefix_any a b w ha hb
  have hle := pre_le (tx a) (tx b)
  rw [tx_length, tx_length] at hle
  obtain ⟨hl1, hl2⟩ := hle
  generalize hk : pre (tx a) (tx b) = k at hp hl1 hl2
  have HK := Lib.hid hk
  clear hk
  by_cases ha1 : k = a.size
  · subst ha1
    by_cases hb1 : a.size = b.size
    · have e1 : ((a.size : Int) == b.size) = true := by rw [beq_iff_eq]; omega
      have H := Lib.hid hb1
      clear hb1
      go_enter Try.func111, Try.ntmps111
      go_wp2_with (go_at_call 87; refine hp.mono ?_; rintro e w' ⟨rfl, n, rfl⟩)
      go_ret
      exact ⟨ret_int (cmp_same HK.out (HK.out.trans H.out)).symm, _, rfl⟩
    · have e1 : ((a.size : Int) == b.size) = false := by rw [beq_eq_false_iff_ne]; omega
      have H := Lib.hid hb1
      clear hb1
      go_enter Try.func111, Try.ntmps111
      go_wp2_with (go_at_call 87; refine hp.mono ?_; rintro e w' ⟨rfl, n, rfl⟩)
      go_quiet (fail)
      go_wp2
      go_ret
      exact ⟨ret_int (cmp_low1 HK.out (fun h => H.out (HK.out.symm.trans h))).symm, _, World.drewN_drewN _ _ _⟩
  · have e1 : ((k : Int) == a.size) = false := by rw [beq_eq_false_iff_ne]; omega
    have hka : k < a.size := by omega
    clear ha1
    by_cases hkb : k < b.size
    · have d1 : decide ((k : Int) < b.size) = true := by simp; omega
      have d2 : decide (k < b.size) = true := by simp; omega
      by_cases hlt : (a[k].toNat : Int) < b[k].toNat
      · go_enter Try.func111, Try.ntmps111
        go_wp2_with (go_at_call 87; refine hp.mono ?_; rintro e w' ⟨rfl, n, rfl⟩)
        go_quiet (fail)
        go_wp2
        go_ret
        exact ⟨ret_int (cmp_low2 k HK.out hka hkb hlt).symm, _, World.drewN_drewN _ _ _⟩
      · have d3 : decide ((a[k].toNat : Int) < b[k].toNat) = false := by simpa using hlt
        go_enter Try.func111, Try.ntmps111
        go_wp2_with (go_at_call 87; refine hp.mono ?_; rintro e w' ⟨rfl, n, rfl⟩)
        go_quiet (fail)
        go_wp2
        go_ret
        exact ⟨ret_int (cmp_high2 k HK.out hka hkb (by omega)).symm, _, World.drewN_drewN _ _ _⟩
    · have d1 : decide ((k : Int) < b.size) = false := by simp; omega
      have d2 : decide (k < b.size) = false := by simp; omega
      go_enter Try.func111, Try.ntmps111
      go_wp2_with (go_at_call 87; refine hp.mono ?_; rintro e w' ⟨rfl, n, rfl⟩)
      go_quiet (fail)
      go_wp2
      go_ret
      exact ⟨ret_int (cmp_high1 k HK.out hka hkb).symm, _, World.drewN_drewN _ _ _⟩
end Go.Proofs.Ythgjckibnojnpaa
