/- The walks of package pair. -/
import Derived.Test.YthgjckibnojnpaaSetM
import Derived.Test.YthgjckibnojnpaaKey2
import Derived.Deep.DeepCutAuto
import Derived.Deep.RegionHeld3
import Derived.Handy
set_option linter.unusedVariables false
set_option linter.unusedSimpArgs false
namespace Go.Proofs.Ythgjckibnojnpaa
open Go.RowKit Go.Proofs.YthgjckibnojnpaaW.PrintWords Pl

namespace Pl
/-- How far from its end a set's pairs reach. -/
def far (xs : List ByteArray) : Nat := ((least xs) - 1).toNat
/-- The two bytes of a text at a distance from its end. -/
def pairAt (s : ByteArray) (d : Nat) : Int × Int := (bt s ((s.size : Int) - 2 - d), bt s ((s.size : Int) - 1 - d))
/-- All pairs of the first texts, and of the next one up to a distance, in order. -/
def pairs (xs : List ByteArray) (k j : Nat) : List (Int × Int) :=
  (xs.take k).flatMap (fun s => (List.range (far xs)).map (pairAt s)) ++ (List.range j).map (pairAt (xs.getD k ByteArray.empty))
/-- Each once. -/
def dd (l : List (Int × Int)) : List (Int × Int) := l.foldl (fun acc p => if p ∈ acc then acc else acc ++ [p]) []
/-- Has one of the first texts a pair at a distance (or the next one, below j)? -/
def Seen (xs : List ByteArray) (k j : Nat) (p : Int × Int) (d : Nat) : Prop :=
  (d < far xs ∧ ∃ s ∈ xs.take k, pairAt s d = p) ∨ (d < j ∧ pairAt (xs.getD k ByteArray.empty) d = p)
/-- What the map says so far. -/
structure Near (xs : List ByteArray) (k j : Nat) (m : List ((Int × Int) × Int)) : Prop where
  keys : m.map (·.1) = dd (pairs xs k j)
  none_ : ∀ p, getM p m = none → ∀ d, ¬ Seen xs k j p d
  some_ : ∀ p v, getM p m = some v → ∃ d : Nat, v = d ∧ Seen xs k j p d ∧ ∀ d', Seen xs k j p d' → d ≤ d'
theorem Near.start (xs : List ByteArray) : Near xs 0 0 [] := ⟨by simp [pairs, dd], fun p _ d h => by simp [Seen] at h, fun p v h => by simp [getM] at h⟩
theorem dd_snoc (l : List (Int × Int)) (p : Int × Int) : dd (l ++ [p]) = if p ∈ dd l then dd l else dd l ++ [p] := by
  unfold dd
  rw [List.foldl_append]
  rfl
theorem pairs_succ (xs : List ByteArray) (k j : Nat) : pairs xs k (j + 1) = pairs xs k j ++ [pairAt (xs.getD k ByteArray.empty) j] := by simp [pairs, List.range_succ]
theorem pairs_next (xs : List ByteArray) (k : Nat) (hk : k < xs.length) : pairs xs (k + 1) 0 = pairs xs k (far xs) := by
  unfold pairs
  have h : xs.getD k ByteArray.empty = xs[k] := by rw [List.getD_eq_getElem?_getD, List.getElem?_eq_getElem hk]; rfl
  rw [List.take_succ_eq_append_getElem hk, List.flatMap_append, h]
  simp
theorem seen_succ (xs : List ByteArray) (k j : Nat) (p : Int × Int) (d : Nat) : Seen xs k (j + 1) p d ↔ Seen xs k j p d ∨ (d = j ∧ pairAt (xs.getD k ByteArray.empty) j = p) := by
  unfold Seen
  constructor
  · rintro (h | ⟨h1, h2⟩)
    · exact .inl (.inl h)
    · by_cases e : d = j
      · subst e; exact .inr ⟨rfl, h2⟩
      · exact .inl (.inr ⟨by omega, h2⟩)
  · rintro ((h | ⟨h1, h2⟩) | ⟨rfl, h2⟩)
    · exact .inl h
    · exact .inr ⟨by omega, h2⟩
    · exact .inr ⟨by omega, h2⟩
theorem seen_next (xs : List ByteArray) (k : Nat) (hk : k < xs.length) (p : Int × Int) (d : Nat) : Seen xs (k + 1) 0 p d ↔ Seen xs k (far xs) p d := by
  unfold Seen
  rw [List.take_succ_eq_append_getElem hk]
  simp only [List.getD_eq_getElem?_getD, List.getElem?_eq_getElem hk, Option.getD_some, List.mem_append, List.mem_singleton, Nat.not_lt_zero, false_and, or_false]
  constructor
  · rintro ⟨h1, s, hs | rfl, h2⟩
    · exact .inl ⟨h1, s, hs, h2⟩
    · exact .inr ⟨h1, h2⟩
  · rintro (⟨h1, s, hs, h2⟩ | ⟨h1, h2⟩)
    · exact ⟨h1, s, .inl hs, h2⟩
    · exact ⟨h1, _, .inr rfl, h2⟩
theorem Near.next {xs : List ByteArray} {k : Nat} {m : List ((Int × Int) × Int)} (h : Near xs k (far xs) m) (hk : k < xs.length) : Near xs (k + 1) 0 m := by
  refine ⟨by rw [pairs_next xs k hk]; exact h.keys, fun p hp d hd => h.none_ p hp d ((seen_next xs k hk p d).1 hd), fun p v hv => ?_⟩
  obtain ⟨d, h1, h2, h3⟩ := h.some_ p v hv
  exact ⟨d, h1, (seen_next xs k hk p d).2 h2, fun d' hd' => h3 d' ((seen_next xs k hk p d').1 hd')⟩
/-- The pair is written: it was not there, or farther away. -/
theorem Near.put {xs : List ByteArray} {k j : Nat} {m : List ((Int × Int) × Int)} (h : Near xs k j m) (p : Int × Int) (hp : pairAt (xs.getD k ByteArray.empty) j = p) (hw : ∀ v, getM p m = some v → (j : Int) < v) : Near xs k (j + 1) (putM p j m) := by
  refine ⟨?_, fun q hq d hd => ?_, fun q v hv => ?_⟩
  · rw [putM_keys, pairs_succ, dd_snoc, hp, ← h.keys]
    by_cases hg : (getM p m).isSome = true
    · rw [if_pos hg, if_pos ((getM_isSome p m).1 hg)]
    · rw [if_neg hg, if_neg (fun h' => hg ((getM_isSome p m).2 h'))]
  · rw [getM_putM] at hq
    by_cases e : q = p
    · rw [if_pos e] at hq; cases hq
    · rw [if_neg e] at hq
      rcases (seen_succ ..).1 hd with hd | ⟨_, hd⟩
      · exact h.none_ q hq d hd
      · exact e (hd.symm.trans hp)
  · rw [getM_putM] at hv
    by_cases e : q = p
    · rw [if_pos e] at hv
      injection hv with hv
      subst e
      refine ⟨j, hv.symm, (seen_succ ..).2 (.inr ⟨rfl, hp⟩), fun d' hd' => ?_⟩
      rcases (seen_succ ..).1 hd' with hd' | ⟨rfl, _⟩
      · cases hg : getM q m with
        | none => exact absurd hd' (h.none_ q hg d')
        | some u =>
          obtain ⟨d, h1, _, h3⟩ := h.some_ q u hg
          have := hw u hg
          have := h3 d' hd'
          omega
      · exact Nat.le_refl _
    · rw [if_neg e] at hv
      obtain ⟨d, h1, h2, h3⟩ := h.some_ q v hv
      refine ⟨d, h1, (seen_succ ..).2 (.inl h2), fun d' hd' => ?_⟩
      rcases (seen_succ ..).1 hd' with hd' | ⟨_, hd'⟩
      · exact h3 d' hd'
      · exact absurd (hd'.symm.trans hp) e
/-- The pair is there already, as near. -/
theorem Near.skip {xs : List ByteArray} {k j : Nat} {m : List ((Int × Int) × Int)} (h : Near xs k j m) (p : Int × Int) (hp : pairAt (xs.getD k ByteArray.empty) j = p) (v : Int) (hv : getM p m = some v) (hw : v ≤ j) : Near xs k (j + 1) m := by
  refine ⟨?_, fun q hq d hd => ?_, fun q u hu => ?_⟩
  · rw [pairs_succ, dd_snoc, hp, ← h.keys, if_pos ((getM_isSome p m).1 (by rw [hv]; rfl))]
  · rcases (seen_succ ..).1 hd with hd | ⟨_, hd⟩
    · exact h.none_ q hq d hd
    · rw [← hd.symm.trans hp, hq] at hv; cases hv
  · obtain ⟨d, h1, h2, h3⟩ := h.some_ q u hu
    refine ⟨d, h1, (seen_succ ..).2 (.inl h2), fun d' hd' => ?_⟩
    rcases (seen_succ ..).1 hd' with hd' | ⟨rfl, hd'⟩
    · exact h3 d' hd'
    · have e : q = p := hd'.symm.trans hp
      subst e
      rw [hv] at hu
      injection hu with hu
      omega
end Pl

/-- A table's block. -/
structure TabAt (w : World) (g : Nat) (xs : List ByteArray) (m : List ((Int × Int) × Int)) : Prop where
  b : ∃ q, Blk w g 103 #[.map (some q), .int .i64 (far xs)] ∧ MapAt enc2 w q m
  near : Near xs xs.length 0 m

set_option maxHeartbeats 1000000 in
theorem pairNew (v : Value) (xs : List ByteArray) (w : World) (h : SetV w v xs) (hl : xs.length * 16 ≤ 140737488355328) (hf : Fit xs) (hpos : ∀ s ∈ xs, 0 < s.size) :
    Calls Try.prog 19 #[v] w fun e w' => ∃ g m, e = .returned (.pointer (some ⟨g, 0, none⟩)) ∧ TabAt w' g xs m ∧ Below w.heap.size w w' := by
  have hmm := @run_makeMap Try.prog
  have hle := fun W (hb : SetV W v xs) => setLeast v xs W hb
  have hli := fun W (hb : SetV W v xs) => setList v xs W hb hl
  have hS1 := h.below ((Below.refl w.heap.size w).alloc (Nat.le_refl _) (.map #[] 0))
  have hsp := least_spec xs
  have hlo : 0 ≤ least xs := by
    rcases hsp.2 with rfl | ⟨s, _, hs⟩
    · simp [least]
    · omega
  have hhi : least xs ≤ 140737488351232 := by
    rcases hsp.2 with rfl | ⟨s, hs, h2⟩
    · simp [least]
    · have := hf s hs; omega
  have h1 := hle _ hS1
  have hspec := hsp.1
  clear hle hsp
  replace hS1 := Aside0.mk hS1
  have hfar : max 0 (least xs - 1) = (far xs : Int) := by unfold far; omega
  have hfhi : far xs ≤ 140737488351232 := by unfold far; omega
  go_enter Try.func19, Try.ntmps19
  go_wp2_with (go_at_call 82; refine h1.mono ?_; rintro e w' ⟨rfl, rfl⟩)
  have hS2 := hS1.out.below ((Below.refl _ (w.alloc (.map #[] 0))).alloc (Nat.le_refl _) (.cells #[.map (some w.heap.size), .int .i64 (far xs)] 103))
  have h2 := hli _ hS2
  clear hli hS2 h1 hmm hfar
  refine h2.mono ?_
  rintro e w1 ⟨u, rfl, hR, hb⟩
  have hB0 : Below w.heap.size w ((w.alloc (.map #[] 0)).alloc (.cells #[.map (some w.heap.size), .int .i64 (far xs)] 103)) := ((Below.refl _ _).alloc (Nat.le_refl _) _).alloc (by simp) _
  have hblk : Blk w1 (w.heap.size + 1) 103 #[.map (some w.heap.size), .int .i64 (far xs)] := by
    have := (Blk.new (w.alloc (.map #[] 0)) 103 #[.map (some w.heap.size), .int .i64 (far xs)]).below hb (by simp)
    simpa using this
  have hmap : MapAt enc2 w1 w.heap.size [] := ((MapAt.made enc2 w).below ((Below.refl _ _).alloc (Nat.le_refl _) _)).below hb
  have hb1 : Below w.heap.size w w1 := hB0.trans (hb.mono (by simp; omega))
  have hR1 : Kd.R Kd.string 9 w1 w.heap.size (fun k => w.heap.size + 1 < k) u xs := Kd.R_lower (Kd.R_mono (Kd.R_bound hR) (fun k hk => by have h5 := hk.2.1; simp at h5; omega)) (by simp; omega)
  obtain ⟨A, c, rfl⟩ := Kd.R_slice hR1
  have hlen := (Sl.of_R hR1).len
  replace hR1 := Aside0.mk hR1
  replace hblk := Aside0.mk hblk
  replace hmap := Aside0.mk hmap
  replace hb1 := Aside0.mk hb1
  clear hR hb hB0 h2
  go_wp2
  go_loopw [20] (fun i wr => ∃ (k : Nat) (m : List ((Int × Int) × Int)), k ≤ xs.length ∧ i = .int .i64 k ∧ Aside0 (Near xs k 0 m) ∧ Aside0 (Blk wr (w.heap.size + 1) 103 #[.map (some w.heap.size), .int .i64 (far xs)]) ∧
    Aside0 (MapAt enc2 wr w.heap.size m) ∧ Aside0 (Kd.R Kd.string 9 wr w.heap.size (fun k => w.heap.size + 1 < k) (.slice A xs.length c) xs) ∧ Aside0 (Below w.heap.size w wr)) (fun i _ => xs.length - (intOf i).toNat)
  case atStart => exact ⟨0, [], by omega, rfl, ⟨Near.start xs⟩, hblk, hmap, hR1, hb1⟩
  case round =>
    clear hblk hmap hR1 hb1
    obtain ⟨k, m, hk, rfl, hnear, hblk, hmap, hR1, hb1⟩ := hrel
    by_cases hlt : k < xs.length
    · obtain ⟨ad, e, hcell0⟩ := Kd.at_string (Kd.R_reads' hR1.out).2.2 (k : Int) (by omega) (by omega)
      cases e
      have hcell : wr.cell? (ad.add k) = some (.string xs[k]) := by
        simpa [rdOf, List.getD_eq_getElem?_getD, List.getElem?_eq_getElem hlt] using hcell0
      have hc1 := hblk.out.cell 1
      simp only [List.getElem?_toArray, List.getElem?_cons_zero, List.getElem?_cons_succ] at hc1
      have hsz : far xs + 1 ≤ xs[k].size := by
        have := hspec xs[k] (List.getElem_mem hlt)
        have h5 : (far xs : Int) = max 0 (least xs - 1) := by unfold far; omega
        have := hpos xs[k] (List.getElem_mem hlt)
        omega
      have hs63 := hf xs[k] (List.getElem_mem hlt)
      have hgk : xs.getD k ByteArray.empty = xs[k] := by rw [List.getD_eq_getElem?_getD, List.getElem?_eq_getElem hlt]; rfl
      replace hgk := Lib.hid hgk
      clear hcell0
      go_wp2
      obtain ⟨wo, hwo⟩ : ∃ wo : World, wo = wr := ⟨_, rfl⟩
      rw [← hwo] at hblk hmap hR1 hb1 ⊢
      clear hc1 hcell hwo
      generalize hs : xs[k] = s at hsz hs63 hgk ⊢
      clear hs
      go_loopw [28] (fun i wr => ∃ (j : Nat) (m : List ((Int × Int) × Int)), j ≤ far xs ∧ i = .int .i64 j ∧ Aside0 (Near xs k j m) ∧ Aside0 (Blk wr (w.heap.size + 1) 103 #[.map (some w.heap.size), .int .i64 (far xs)]) ∧
        Aside0 (MapAt enc2 wr w.heap.size m) ∧ Aside0 (Kd.R Kd.string 9 wr w.heap.size (fun k => w.heap.size + 1 < k) (.slice (some ad) xs.length c) xs) ∧ Aside0 (Below w.heap.size w wr)) (fun i _ => far xs - (intOf i).toNat)
      case atStart => exact ⟨0, m, by omega, rfl, hnear, hblk, hmap, hR1, hb1⟩
      case round =>
        clear hblk hmap hR1 hb1 hnear
        obtain ⟨j, m', hj, rfl, hnear, hblk, hmap, hR1, hb1⟩ := hrel
        by_cases hjl : j < far xs
        · obtain ⟨i1, hi1, hi1l⟩ : ∃ i1 : Nat, (s.size : Int) - 2 - j = i1 ∧ i1 < s.size := ⟨s.size - 2 - j, by omega, by omega⟩
          obtain ⟨i2, hi2, hi2l⟩ : ∃ i2 : Nat, (s.size : Int) - 1 - j = i2 ∧ i2 < s.size := ⟨s.size - 1 - j, by omega, by omega⟩
          have e1 : IntKind.i64.wrap ((s.size : Int) - 2) = (s.size : Int) - 2 := by rw [IntKind.wrap_i64]; omega
          have e2 : IntKind.i64.wrap ((s.size : Int) - 1) = (s.size : Int) - 1 := by rw [IntKind.wrap_i64]; omega
          have e3 : IntKind.i64.wrap (i1 : Int) = i1 := by rw [IntKind.wrap_i64]; omega
          have e4 : IntKind.i64.wrap (i2 : Int) = i2 := by rw [IntKind.wrap_i64]; omega
          go_wp2
          go_region
          generalize hp1 : ((s[i1]'hi1l).toNat : Int) = p1
          generalize hp2 : ((s[i2]'hi2l).toNat : Int) = p2
          have hpair : pairAt s j = (p1, p2) := by
            unfold pairAt
            rw [hi1, hi2, ← hp1, ← hp2, ← bt_at s i1 (by simpa using hi1l), ← bt_at s i2 (by simpa using hi2l)]
            rfl
          clear hp1 hp2 e1 e2 e3 e4 hi1 hi2
          generalize hW : (wr.alloc (.cells #[.int .u8 p1, .int .u8 p2] 104)).drew = W
          have hbW : Below wr.heap.size wr W := by rw [← hW]; exact ((Below.refl _ _).alloc (Nat.le_refl _) _).drew
          have hkb : Blk W wr.heap.size 104 #[.int .u8 p1, .int .u8 p2] := by rw [← hW]; exact Blk.new wr _ _
          have hkc0 := hkb.cell 0
          have hkc1 := hkb.cell 1
          have hblkW := hblk.out.below hbW hblk.out.lt
          have hc0 := hblkW.cell 0
          simp only [List.getElem?_toArray, List.getElem?_cons_zero, List.getElem?_cons_succ] at hkc0 hkc1 hc0
          have hmapW := hmap.out.below hbW
          have hRW := Kd.R_below hR1.out hbW
          have hb1W := hb1.out.trans (hbW.mono hb1.out.size)
          have hlk := fun n => (run_lookup key2_ok Try.underlying101 zero_int (w := W.drewN n) (b := w.heap.size) hmapW (p1, p2)).2
          simp only [enc2] at hlk
          replace hpair := Lib.hid hpair
          replace hblkW := Aside0.mk hblkW
          replace hmapW := Aside0.mk hmapW
          replace hRW := Aside0.mk hRW
          replace hb1W := Aside0.mk hb1W
          clear hW hbW hkb hblk hmap hR1 hb1
          cases hg : getM (p1, p2) m' with
          | none =>
            rw [hg] at hlk
            simp only [Option.getD_none, Option.isSome_none] at hlk
            replace hg := Lib.hid hg
            obtain ⟨o, ho⟩ := run_updateW key2_ok Try.underlying101 hmapW.out (p1, p2) (j : Int)
            simp only [enc2] at ho
            go_wp2
            go_quiet (fail)
            have ho1 := ho (W.drewN (nq + 1)) rfl
            obtain ⟨hu, hmu, hgu⟩ := ho1
            replace hmu := Aside0.mk hmu
            replace hgu := Aside0.mk (grown_drewN hgu)
            clear ho hlk
            go_wp2
            go_region
            go_wp2
            exact ⟨⟨j + 1, _, by omega, by go_num, ⟨hnear.out.put (p1, p2) (by rw [hgk.out]; exact hpair.out) (fun v hv => by rw [hg.out] at hv; cases hv)⟩, ⟨hblkW.out.grown hgu.out (by simp)⟩, hmu,
              ⟨Kd.R_grown hRW.out hgu.out (fun k hk e => by injection e with e; omega)⟩, ⟨hb1W.out.grown hgu.out hb1W.out.size (fun k hk => by cases hk; exact Nat.le_refl _)⟩⟩, by simp [intOf]; omega⟩
          | some v0 =>
            rw [hg] at hlk
            simp only [Option.getD_some, Option.isSome_some] at hlk
            replace hg := Lib.hid hg
            by_cases hjv : (j : Int) < v0
            · have hd : decide ((j : Int) < v0) = true := by simpa using hjv
              obtain ⟨o, ho⟩ := run_updateW key2_ok Try.underlying101 hmapW.out (p1, p2) (j : Int)
              simp only [enc2] at ho
              go_wp2
              go_quiet (fail)
              have ho1 := ho (W.drewN (nq + 1)) rfl
              obtain ⟨hu, hmu, hgu⟩ := ho1
              replace hmu := Aside0.mk hmu
              replace hgu := Aside0.mk (grown_drewN hgu)
              clear ho hlk
              go_wp2
              go_region
              go_wp2
              exact ⟨⟨j + 1, _, by omega, by go_num, ⟨hnear.out.put (p1, p2) (by rw [hgk.out]; exact hpair.out) (fun v hv => by rw [hg.out] at hv; injection hv with hv; omega)⟩, ⟨hblkW.out.grown hgu.out (by simp)⟩, hmu,
                ⟨Kd.R_grown hRW.out hgu.out (fun k hk e => by injection e with e; omega)⟩, ⟨hb1W.out.grown hgu.out hb1W.out.size (fun k hk => by cases hk; exact Nat.le_refl _)⟩⟩, by simp [intOf]; omega⟩
            · have hd : decide ((j : Int) < v0) = false := by simpa using hjv
              go_wp2
              go_quiet (fail)
              go_wp2
              exact ⟨⟨j + 1, _, by omega, by go_num, ⟨hnear.out.skip (p1, p2) (by rw [hgk.out]; exact hpair.out) v0 hg.out (by omega)⟩, ⟨hblkW.out⟩, ⟨hmapW.out⟩, ⟨hRW.out⟩, ⟨below_drewN' hb1W.out _⟩⟩, by simp [intOf]; omega⟩
        · have hje : j = far xs := by omega
          subst hje
          go_wp2
          exact ⟨⟨k + 1, _, by omega, by go_num, ⟨hnear.out.next hlt⟩, hblk, hmap, hR1, hb1⟩, by simp [intOf]; omega⟩
    · have hke : k = xs.length := by omega
      subst hke
      go_wp2
      go_ret
      exact ⟨_, _, rfl, ⟨⟨_, hblk.out, hmap.out⟩, hnear.out⟩, hb1.out⟩
end Go.Proofs.Ythgjckibnojnpaa
