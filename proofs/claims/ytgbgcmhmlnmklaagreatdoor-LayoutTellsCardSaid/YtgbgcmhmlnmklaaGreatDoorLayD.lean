
/- Layouts: the layout with a rank. -/
import Derived.Test.YtgbgcmhmlnmklaaGreatDoorLayC
set_option linter.unusedSimpArgs false
set_option linter.unusedVariables false
namespace Go.Proofs.YtgbgcmhmlnmklaaGreatDoor
open Go.RowKit Go.IntWalk

theorem zeroLayout (w : World) : (zeroValue 27).run Tryz.prog w = .ok (.agg #[.slice none 0 0, .int .i64 0]) w := by kernel_rfl

set_option maxRecDepth 100000 in
set_option maxHeartbeats 1000000 in
theorem unrank_no (n k r : Int) (w : World) (h : r < 0 ∨ countL n k ≤ r) :
    Calls Tryz.prog 5 #[.int .i64 n, .int .i64 k, .int .i64 r] w fun e w' => e = .returned (.tuple #[.agg #[.slice none 0 0, .int .i64 0], .bool false]) ∧ Below w.heap.size w w' := by
  have hz := zeroLayout
  by_cases h0 : r < 0
  · go_enter Tryz.func5, Tryz.ntmps5
    go_wp2
    exact bodyPost_ret (v := .tuple #[.agg #[.slice none 0 0, .int .i64 0], .bool false]) (by simp [results, Tryz.results5, go_sem]) rfl ⟨rfl, (Below.refl _ _).alloc (Nat.le_refl _) _⟩
  · have h1 : countL n k ≤ r := by omega
    go_enter Tryz.func5, Tryz.ntmps5
    go_wp2_with fail
    refine (count_any _ _ _).mono ?_
    rintro e w1 ⟨rfl, hB⟩
    have hc := bcell hB
    have hf := bfrozen hB
    have hz1 := hB.size
    simp only [World.size_alloc] at hz1
    go_wp2
    refine bodyPost_ret (v := .tuple #[.agg #[.slice none 0 0, .int .i64 0], .bool false]) (by simp [results, Tryz.results5, go_sem, hc, hf, hz1]) rfl ⟨rfl, ?_⟩
    have hb1 : Below w.heap.size w w1 := ((Below.refl _ w).alloc (Nat.le_refl _) _).trans (hB.mono (by simp))
    repeat (first | exact hb1 | refine Below.setCell ?_ (by simp) _)

/-- The world while a layout is made: its result's block, the table, the layout's box and its row of cells. -/
def UW (w wr : World) (gR gT gL gF n : Nat) (t : Int) (l : List Bool) : Prop :=
  Below w.heap.size w wr ∧ Tab wr gT (fun i j => (binom i j : Int)) ∧ Blk wr gL 27 #[.slice (some ⟨gF, 0, none⟩) n n, .int .i64 t] ∧ Blk wr gF 4 (l.map Value.bool).toArray ∧
    Blk wr gR 27 #[.slice none 0 0, .int .i64 0] ∧ w.heap.size ≤ gF ∧ gF ≠ gL ∧ gF ≠ gT ∧ gF ≠ gR ∧ w.heap.size ≤ gR
theorem madeBools (n : Nat) : madeCells #[Value.bool false] n = ((List.replicate n false).map Value.bool).toArray := by
  apply Array.ext
  · simp [madeCells]
  · intro i h1 h2; simp [madeCells, Nat.mod_one]
theorem UW.mk1 {w w2 : World} {gR gT n : Nat} {t : Int} (hb : Below w.heap.size w w2) (hT : Tab w2 gT (fun i j => (binom i j : Int))) (hg : gT < w2.heap.size) (bR : Blk w2 gR 27 #[.slice none 0 0, .int .i64 0]) (hR : w.heap.size ≤ gR) :
    UW w ((w2.alloc (.cells #[.slice (some ⟨w2.heap.size + 1, 0, none⟩) n n, .int .i64 t] 27)).alloc (.cells (madeCells #[.bool false] n) 4)).drew gR gT w2.heap.size (w2.heap.size + 1) n t (List.replicate n false) := by
  have h1 := bR.lt
  have h2 := hb.size
  refine ⟨((hb.alloc h2 _).alloc (by simp; omega) _).drew, ((hT.alloc hg _).alloc (by simp; omega) _).draw, ((Blk.new w2 _ _).alloc _).drew, ?_, ((bR.alloc _).alloc _).drew, ?_, ?_, ?_, ?_, hR⟩
  · rw [madeBools]; exact (Blk.new_at (by simp)).drew
  all_goals omega
theorem UW.mk2 {w w2 : World} {gR gT n : Nat} {t : Int} (hb : Below w.heap.size w w2) (hT : Tab w2 gT (fun i j => (binom i j : Int))) (hg : gT < w2.heap.size) (bR : Blk w2 gR 27 #[.slice none 0 0, .int .i64 0]) (hR : w.heap.size ≤ gR) :
    UW w ((w2.alloc (.cells (madeCells #[.bool false] n) 4)).alloc (.cells #[.slice (some ⟨w2.heap.size, 0, none⟩) n n, .int .i64 t] 27)).drew gR gT (w2.heap.size + 1) w2.heap.size n t (List.replicate n false) := by
  have h1 := bR.lt
  have h2 := hb.size
  refine ⟨((hb.alloc h2 _).alloc (by simp; omega) _).drew, ((hT.alloc hg _).alloc (by simp; omega) _).draw, (Blk.new_at (by simp)).drew, ?_, ((bR.alloc _).alloc _).drew, ?_, ?_, ?_, ?_, hR⟩
  · rw [madeBools]; exact ((Blk.new w2 _ _).alloc _).drew
  all_goals omega
/-- One cell of the row is written. -/
theorem UW.set {w wr : World} {gR gT gL gF n : Nat} {t : Int} {l l' : List Bool} (h : UW w wr gR gT gL gF n t l) (i : Nat) (hl : l' = l.set i true) : UW w (wr.setCell ⟨gF, i, none⟩ (.bool true)) gR gT gL gF n t l' := by
  obtain ⟨h1, h2, h3, h4, h5, h6, h7, h8, h9, h10⟩ := h
  refine ⟨h1.setCell h6 _, h2.far (Ne.symm h8) _, h3.far (Ne.symm h7) _, ?_, h5.far (Ne.symm h9) _, h6, h7, h8, h9, h10⟩
  have e : (l'.map Value.bool).toArray = (l.map Value.bool).toArray.setIfInBounds i (.bool true) := by
    rw [hl, List.map_set, List.setIfInBounds_toArray]
  rw [e]
  exact h4.set_ i _
def fillL (L : List Bool) (i : Nat) : List Bool := L.take i ++ List.replicate (L.length - i) false
theorem fillL_len (L : List Bool) (i : Nat) (h : i ≤ L.length) : (fillL L i).length = L.length := by simp [fillL]; omega
theorem fillL_set (L : List Bool) (i : Nat) (h : i < L.length) : (fillL L i).set i L[i] = fillL L (i+1) := by
  apply List.ext_getElem?
  intro j
  have m1 : min i L.length = i := by omega
  have m2 : min (i+1) L.length = i + 1 := by omega
  simp only [fillL, List.getElem?_set, List.getElem?_append, List.getElem?_take, List.getElem?_replicate, List.length_append, List.length_take, List.length_replicate, m1, m2]
  by_cases h1 : i = j
  · subst h1
    rw [if_pos rfl, if_pos (by omega), if_pos (by omega), if_pos (by omega), List.getElem?_eq_getElem h]
  · rw [if_neg h1]
    by_cases h2 : j < i
    · rw [if_pos (by omega), if_pos h2, if_pos (by omega), if_pos (by omega)]
    · rw [if_neg h2, if_neg (show ¬ j < i + 1 by omega)]
      by_cases h3 : j < L.length
      · rw [if_pos (show j - i < L.length - i by omega), if_pos (show j - (i+1) < L.length - (i+1) by omega)]
      · rw [if_neg (show ¬ j - i < L.length - i by omega), if_neg (show ¬ j - (i+1) < L.length - (i+1) by omega)]
theorem fillL_false (L : List Bool) (i : Nat) (h : i < L.length) (hb : L[i] = false) : fillL L (i+1) = fillL L i := by
  rw [← fillL_set L i h, hb]
  apply List.ext_getElem?
  intro j
  rw [List.getElem?_set]
  by_cases h1 : i = j
  · subst h1
    rw [if_pos rfl, if_pos (by rw [fillL_len L i (by omega)]; exact h)]
    simp only [fillL, List.getElem?_append, List.length_take, List.getElem?_replicate]
    rw [if_neg (by omega), if_pos (by omega)]
  · rw [if_neg h1]
theorem infoBool : (Tryz.prog.info? 4).map (fun i => (i.zero, i.size, i.bytes)) = some (some (.bool false), 1, 1) := by kernel_rfl
/-- The result: a new row of cells, which holds the layout with the rank r. -/
def LayRes (w : World) (n k r : Nat) (e : Ending) (w' : World) : Prop :=
  ∃ g, e = .returned (.tuple #[.agg #[.slice (some ⟨g, 0, none⟩) n n, .int .i64 (r / binom (n-1) (k-1) : Nat)], .bool true]) ∧ SlR w' w'.heap.size (some ⟨g, 0, none⟩) (unrankN n k r) ∧ Below w.heap.size w w'
set_option maxRecDepth 100000 in
set_option maxHeartbeats 2000000 in
theorem unrank_yes (n k r : Nat) (w : World) (hn : 1 ≤ n) (hn' : n ≤ 24) (hk : 1 ≤ k) (hk' : k ≤ n) (hr : r < n * binom (n-1) (k-1)) :
    Calls Tryz.prog 5 #[.int .i64 n, .int .i64 k, .int .i64 r] w fun e w' => LayRes w n k r e w' := by
  have hz := zeroLayout
  have hcnt : countL n k = (n * binom (n-1) (k-1) : Nat) := by simp only [countL]; rw [if_pos (by omega)]; simp
  have h1 : ¬ (countL n k ≤ (r:Int)) := by rw [hcnt]; omega
  have hcm : binom (n-1) (k-1) ≤ 16777216 := binom_le _ _ (by omega)
  have hrr : r < 24 * 16777216 := by have := Nat.mul_le_mul hn' hcm; omega
  have hpos : 0 < binom (n-1) (k-1) := binom_pos _ _ (by omega)
  clear hcnt
  obtain ⟨i0, hi, hz0, hz1, hz2⟩ := info_parts infoBool
  go_enter Tryz.func5, Tryz.ntmps5
  go_wp2_with fail
  refine (count_any _ _ _).mono ?_
  rintro e w1 ⟨rfl, hB⟩
  go_wp2_with fail
  refine (choose_any _).mono ?_
  rintro e w2 ⟨rfl, hT, hB2, hs2⟩
  have hB' := hB.trans (hB2.mono hB.size)
  have hc := bcell hB'
  have hf := bfrozen hB'
  have hz1 := hB'.size
  simp only [World.size_alloc] at hz1
  have t1 := hT.cell (n - 1) (k - 1) (by omega) (by omega)
  have i1 : (1:Int) ≤ n := by omega
  have i2 : (n : Int) ≤ 25 := by omega
  have i3 : (1:Int) ≤ k := by omega
  have i4 : (k : Int) ≤ 25 := by omega
  have e2 : IntKind.i64.wrap ((n:Int) - 1) = n - 1 := IntWalk.i64_in _ (by omega)
  have e3 : IntKind.i64.wrap ((k:Int) - 1) = k - 1 := IntWalk.i64_in _ (by omega)
  have hmk := fun W => run_make_rowN (P := Tryz.prog) 25 4 i0 _ Tryz.underlying25 hi hz0 .i64 .i64 n n (Nat.le_refl _) (by rw [hz2]; omega) (by omega) W
  obtain ⟨q, hq⟩ : ∃ q, q = r / binom (n-1) (k-1) := ⟨_, rfl⟩
  obtain ⟨m, hm⟩ : ∃ m, m = r % binom (n-1) (k-1) := ⟨_, rfl⟩
  have hqr : q ≤ r := by rw [hq]; exact Nat.div_le_self _ _
  have e4 : wrap64 ((r:Int) / (binom (n-1) (k-1) : Nat)) = (q : Int) := by
    rw [← Int.natCast_ediv, ← hq]
    exact wrap64_in _ (by omega)
  have e5 : (r:Int) % (binom (n-1) (k-1) : Nat) = (m : Int) := by rw [hm]; exact (Int.natCast_emod _ _).symm
  have Hq := hid hq
  have Hm := hid hm
  clear hq hm
  have bR : Blk w2 w.heap.size 27 #[.slice none 0 0, .int .i64 0] := (Blk.new w _ _).below hB' (by simp)
  have hb2 : Below w.heap.size w w2 := ((Below.refl _ w).alloc (Nat.le_refl _) _).trans (hB'.mono (by simp))
  have hs1 := hB.size
  simp only [World.size_alloc] at hs1
  go_upto_region 4 with fail
  go_cut [9] (fun s9 wx => ∃ gL gF : Nat, s9 = .pointer (some ⟨gL, 0, none⟩) ∧ UW w wx w.heap.size w1.heap.size gL gF n q (List.replicate n false))
  case first =>
    go_region
    all_goals
      clear hc hf t1 e2 e3 e4 hmk hz
      go_step
      go_step
      go_meet
      first | exact ⟨_, _, rfl, UW.mk1 hb2 hT hs2 bR (Nat.le_refl _)⟩ | exact ⟨_, _, rfl, UW.mk2 hb2 hT hs2 bR (Nat.le_refl _)⟩
  case rest =>
    clear hmk e4 t1 hc hf
    obtain ⟨gL, gF, rfl, hu⟩ := hcut
    obtain ⟨hu1, hu2, hu3, hu4, hu5, hu6, hu7, hu8, hu9, hu10⟩ := id hu
    have t1 := hu2.cell (n - 1) (k - 1) (by omega) (by omega)
    go_wp2_with fail
    have E5 := hid e5
    clear t1 hu1 hu2 hu3 hu4 hu5 hu6 hu7 hu8 hu9 hu10 e2 e3 e5 bR hb2 hB hB' hB2 hT hs2
    obtain ⟨hR, hL1, hL2, hL3, hL4⟩ := unrankN_facts hn hn' hk hk' hr
    obtain ⟨L, hL⟩ : ∃ L, L = unrankN n k r := ⟨_, rfl⟩
    have HL := hid hL
    rw [← Hq.out] at hR hL3 hL4
    rw [← hL] at hL1 hL2 hL4 hR
    obtain ⟨hq1, hq2, hq3, hq3'⟩ := hR
    clear hL3
    have hmr : m < binom (n-1) (k-1) := by rw [Hm.out]; exact Nat.mod_lt _ hpos
    have hrk : rankO (restL L q 0) = m := by rw [hL4, ← Hm.out, rank_unrank _ _ _ hmr]
    have hln : (restL L q 0).length = n - 1 := by rw [hL4, unrankO_length]
    have hct : (restL L q 0).count true = k - 1 := by rw [hL4, ← Hm.out, unrankO_count _ _ _ hmr]
    have R0 : Hid (m = rankO (restL L q 0)) := hrk.symm
    have R1 := hid hln
    have R2 := hid hct
    have HLn : Hid (L.length = n) := hL1
    have HLq : Hid (L[q] = true) := hq3'
    have hu' : UW w wc w.heap.size w1.heap.size gL gF n q (fillL L 0) := by simpa [fillL, hL1] using hu
    have hqn : q < n := by omega
    have hmb : m ≤ 16777216 := by omega
    clear hrk hln hct hL1 hL2 hL4 hL hq3' hu hqr hcm hrr hpos hq1 hq2 hmr h1
    go_loopw [2, 10, 11, 54] (fun a b c d wr => ∃ i rr : Nat, i ≤ n ∧ d = .int .i64 i ∧ a = .int .i64 rr ∧ b = .int .i64 ((restL L q i).length : Nat) ∧ c = .int .i64 ((restL L q i).count true : Nat) ∧
        rr ≤ 16777216 ∧ Hid (rr = rankO (restL L q i)) ∧ UW w wr w.heap.size w1.heap.size gL gF n q (fillL L i))
      (fun _ _ _ d _ => n - (intOf d).toNat)
    case atStart => exact ⟨0, m, by omega, rfl, by rw [E5.out], by rw [R1.out]; congr 1; omega, by rw [R2.out]; congr 1; omega, hmb, R0, hu'⟩
    case round =>
      clear hu' R0 R1 R2
      obtain ⟨i, rr, hi, rfl, rfl, rfl, rfl, hrb, hrr, hu⟩ := hrel
      obtain ⟨hu1, hu2, hu3, hu4, hu5, hu6, hu7, hu8, hu9, hu10⟩ := id hu
      have cL0 := hu3.cell 0
      have cL1 := hu3.cell 1
      simp only [List.getElem?_toArray, List.getElem?_cons_zero, List.getElem?_cons_succ] at cL0 cL1
      have fF := hu4.frozen
      by_cases hlt : i < n
      · have hLn24 : L.length ≤ 24 := by rw [HLn.out]; exact hn'
        have hiL : i < L.length := by rw [HLn.out]; exact hlt
        have hfl := fillL_len L i (by omega)
        obtain ⟨vF, cF⟩ : ∃ vF, wr.cell? ⟨gF, i, none⟩ = some vF := ⟨.bool ((fillL L i)[i]'(by omega)), by rw [hu4.cell]; simp⟩
        by_cases hit : i = q
        · have hset := fillL_set L i hiL
          have hLi : L[i] = true := by have := HLq.out; subst hit; exact this
          have hrs : Hid (restL L q i = restL L q (i+1)) := by rw [hit]; exact restL_at L q hq3
          have e1 : ((i:Int) == (q:Int)) = true := by simp [hit]
          rw [hLi] at hset
          have huS := hu.set i hset.symm
          clear hit hset hLi hfl hu1 hu2 hu3 hu4 hu5 hu6 hu7 hu8 hu9 hu10 hu
          go_wp2
          go_roundw
          case rel =>
            have hh := hrs.out
            rw [hh] at hrr ⊢
            exact ⟨i+1, rr, by omega, by go_num, rfl, rfl, rfl, hrb, hrr, huS⟩
          case measure => simp [intOf]; omega
        · have e1 : ((i:Int) == (q:Int)) = false := by simp; omega
          have hst := restL_step L q i hiL hit
          have hle := restL_len L q (i+1) hq3 (by omega)
          have hle2 : (restL L q (i+1)).length ≤ 24 := by rw [hle]; split <;> omega
          have hcl : (restL L q (i+1)).count true ≤ (restL L q (i+1)).length := List.count_le_length
          have hrl := rankO_lt (restL L q (i+1))
          have f1 : (restL L q i).length = (restL L q (i+1)).length + 1 := by rw [hst]; simp
          have F1 := hid f1
          have g1 : (1:Int) ≤ (restL L q i).length := by omega
          have g2 : ((restL L q i).length:Int) ≤ 25 := by omega
          clear hle
          cases hb : L[i] with
          | true =>
            have hset := fillL_set L i hiL
            rw [hb] at hset hst
            have huS := hu.set i hset.symm
            have f2 : (restL L q i).count true = (restL L q (i+1)).count true + 1 := by rw [hst]; simp
            have F2 := hid f2
            have hrr2 : rr < binom ((restL L q i).length - 1) ((restL L q i).count true - 1) := by
              have := hrr.out; rw [hst] at this; rw [f1, f2, Nat.add_sub_cancel, Nat.add_sub_cancel, this]; exact hrl
            have f3 : Hid (rr = rankO (restL L q (i+1))) := by have := hrr.out; rw [hst] at this; exact this
            have t1 := hu2.cell ((restL L q i).length - 1) ((restL L q i).count true - 1) (by omega) (by omega)
            have g3 : (1:Int) ≤ (restL L q i).count true := by omega
            have g4 : ((restL L q i).count true : Int) ≤ 25 := by omega
            have e2 : (((restL L q i).count true : Int) == 0) = false := by simp only [beq_eq_false_iff_ne]; omega
            have hme : true ∈ restL L q i := List.count_pos_iff.1 (by omega)
            have e3 : (rr : Int) < (binom ((restL L q i).length - 1) ((restL L q i).count true - 1) : Nat) := by omega
            clear hit hset hu1 hu2 hu3 hu4 hu5 hu6 hu7 hu8 hu9 hu10 hfl hu f1 f2 hst hrl
            go_wp2
            go_roundw
            case rel => exact ⟨i+1, rr, by omega, by go_num, rfl, by rw [F1.out]; congr 1; omega, by rw [F2.out]; congr 1; omega, hrb, f3, huS⟩
            case measure => simp [intOf]; omega
          | false =>
            have hfl2 := fillL_false L i hiL hb
            rw [hb] at hst
            have huS : Hid (UW w wr w.heap.size w1.heap.size gL gF n q (fillL L (i+1))) := by rw [hfl2]; exact hu
            have f2 : (restL L q i).count true = (restL L q (i+1)).count true := by rw [hst]; simp
            have F2 := hid f2
            by_cases hn0 : 0 < (restL L q i).count true
            · have hrr2 : Hid (rr - binom ((restL L q i).length - 1) ((restL L q i).count true - 1) = rankO (restL L q (i+1))) ∧ binom ((restL L q i).length - 1) ((restL L q i).count true - 1) ≤ rr := by
                have := hrr.out; rw [hst] at this; simp only [rankO, if_pos (show 0 < (restL L q (i+1)).count true by omega)] at this
                rw [f1, f2, Nat.add_sub_cancel, this]; exact ⟨by unfold Hid; omega, by omega⟩
              obtain ⟨f3, f4⟩ := hrr2
              have t1 := hu2.cell ((restL L q i).length - 1) ((restL L q i).count true - 1) (by omega) (by omega)
              have g3 : (1:Int) ≤ (restL L q i).count true := by omega
              have g4 : ((restL L q i).count true : Int) ≤ 25 := by omega
              have e2 : (((restL L q i).count true : Int) == 0) = false := by simp only [beq_eq_false_iff_ne]; omega
              have hme : true ∈ restL L q i := List.count_pos_iff.1 (by omega)
              have e3 : ¬ (rr : Int) < (binom ((restL L q i).length - 1) ((restL L q i).count true - 1) : Nat) := by omega
              clear hit hu1 hu2 hu3 hu4 hu5 hu6 hu7 hu8 hu9 hu10 hfl hu f1 f2 hst hrl hfl2
              go_wp2
              go_roundw
              case rel => exact ⟨i+1, _, by omega, by go_num, by rw [← Int.natCast_sub f4], by rw [F1.out]; congr 1; omega, by rw [F2.out], by omega, f3, huS⟩
              case measure => simp [intOf]; omega
            · have f3 : Hid (rr = rankO (restL L q (i+1))) := by
                have := hrr.out; rw [hst] at this; simp only [rankO, if_neg (show ¬ 0 < (restL L q (i+1)).count true by omega)] at this
                unfold Hid; omega
              have e2 : (((restL L q i).count true : Int) == 0) = true := by simp only [beq_iff_eq]; omega
              clear hit hu1 hu2 hu3 hu4 hu5 hu6 hu7 hu8 hu9 hu10 hfl hu f1 f2 hst hrl hfl2
              go_wp2
              go_roundw
              case rel => exact ⟨i+1, rr, by omega, by go_num, rfl, by rw [F1.out]; congr 1; omega, by rw [F2.out], hrb, f3, huS⟩
              case measure => simp [intOf]; omega
      · have hin : Hid (i = n) := by unfold Hid; omega
        have r0 := hu5.cell 0
        have r1 := hu5.cell 1
        have fr := hu5.frozen
        simp only [List.getElem?_toArray, List.getElem?_cons_zero, List.getElem?_cons_succ] at r0 r1
        have lR := hu5.lt
        clear hu1 hu2 hu3 hu4 hu5 hu6 hu7 hu8 hu9 hu10
        go_wp2
        refine bodyPost_ret (v := .tuple #[.agg #[.slice (some ⟨gF, 0, none⟩) n n, .int .i64 q], .bool true]) (by simp [results, Tryz.results5, go_sem, r0, r1, fr, lR]) rfl ?_
        obtain ⟨hu1, hu2, hu3, hu4, hu5, hu6, hu7, hu8, hu9, hu10⟩ := hu
        have hq := Hq.out
        have hfe : fillL L i = unrankN n k r := by
          have h1 := hin.out
          have h2 := HLn.out
          rw [h1, ← HL.out]; simp [fillL, ← h2]
        refine ⟨gF, by rw [hq], ?_, ?_⟩
        · rw [← hfe]
          exact Blk.bools (((hu4.far hu9 _).far hu9 _)) (by simp [World.setCell]; exact hu4.lt)
        · exact (hu1.setCell (Nat.le_refl _) _).setCell (Nat.le_refl _) _

end Go.Proofs.YtgbgcmhmlnmklaaGreatDoor
