
/- Game: GameRanks, the walk. -/
import Derived.Test.YtiaplhdgchbkkaaGamQ
set_option linter.unusedSimpArgs false
set_option linter.unusedVariables false
namespace Go.Proofs.Ytiaplhdgchbkkaa
open Go.RowKit Go.IntWalk Go.Shelf

/-- What the slice that Ranks hands back says. -/
theorem rank_form {g : Gm} (hg : GmOK g) {w : World} {base : Nat} {v : Value} (h : OwnI w base v (rankL g)) : ∃ A c, v = .slice A (rankL g).length c ∧ (rankL g).length ≤ maxLen ∧ SlR w w.heap.size A (rankL g) ∧ (rankL g).length = g.1.length ∧ (rankL g).length ≤ 1000 ∧ (∀ x ∈ rankL g, -1 ≤ x ∧ x ≤ 1000) := by
  have hrk := rankL_rk hg
  have hrn := hrk.len
  have hs := hg.s
  have hb : ∀ x ∈ rankL g, -1 ≤ x ∧ x ≤ 1000 := fun x hx => by
    obtain ⟨q, hq, rfl⟩ := List.getElem_of_mem hx
    have h1 := hrk.lo q (by omega)
    have h2 := (stB_le (g := g) hg.n hg.fm g.1.length q)
    have h3 : (stB g g.1.length).r q = (rankL g)[q] := by simp [St.r, rankL, List.getD, show q < (stB g g.1.length).R.length from hq]
    have h4 : (rankL g).getD q 0 = (rankL g)[q] := by simp [List.getD, hq]
    rw [h3] at h2
    rw [h4] at h1
    omega
  obtain ⟨A, c, hv, h1, h2, h3⟩ := h.slr (fun x hx => by have := hb x hx; unfold I64; omega)
  exact ⟨A, c, hv, by omega, h3, hrn, by omega, hb⟩
theorem solve_form {g : Gm} (hg : GmOK g) {w : World} {base : Nat} {v : Value} (h : OwnR w base v (solveL g)) (hI : ∀ x ∈ solveL g, RowI x) : ∃ A c, v = .slice A (solveL g).length c ∧ (solveL g).length ≤ maxLen ∧ SlR w w.heap.size A (solveL g) ∧ (solveL g).length ≤ 1000 := by
  obtain ⟨A, c, hv, h1, h2, h3⟩ := h.slr hI
  have := rowsK_len g (rankL g) g.1.length
  have := hg.s
  exact ⟨A, c, hv, by omega, h3, by unfold solveL; omega⟩
/-- The Acts are numbers. -/
def ActI (g : Gm) : Prop := ∀ l ∈ g.2, ∀ m ∈ l, I64 m.1
theorem GmR.acts {w : World} {B : Nat} {Ag Am : Option Addr} {g : Gm} (h : GmR w B Ag Am g) : ActI g := by
  intro l hl m hm
  obtain ⟨p, hp, rfl⟩ := List.getElem_of_mem hl
  obtain ⟨b, off, A', c', _, _, _, _, _, hs⟩ := h.mvs.list hp
  obtain ⟨k, hk, rfl⟩ := List.getElem_of_mem hm
  obtain ⟨_, _, _, _, _, _, _, _, _, _, _, hi⟩ := hs.mv hk
  exact hi
theorem solve_rows {g : Gm} (hg : GmOK g) (ha : ActI g) : ∀ x ∈ solveL g, RowI x := by
  intro x hx
  unfold solveL rowsK at hx
  rw [List.mem_filterMap] at hx
  obtain ⟨p, hp, hx⟩ := hx
  have hp : p < g.1.length := by simpa using hp
  have hs := hg.s
  have hrk := rankL_rk hg
  have hpR : p < (rankL g).length := by have := hrk.len; omega
  have hb : -1 ≤ (rankL g).getD p 0 ∧ (rankL g).getD p 0 ≤ 1000 := by
    have h1 := hrk.lo p hp
    have h2 := (stB_le (g := g) hg.n hg.fm g.1.length p)
    have h3 : (stB g g.1.length).r p = (rankL g).getD p 0 := rfl
    rw [h3] at h2
    omega
  unfold rowF at hx
  split at hx
  · injection hx with hx; subst hx; exact ⟨I64.nat (by omega), by simp [I64], by simp [I64]⟩
  · split at hx
    · injection hx with hx; subst hx
      rename_i h1 h2
      obtain ⟨k, hk, hf, _⟩ := hrk.first hp (by omega)
      have hpm : p < g.2.length := by have := hg.n; omega
      refine ⟨I64.nat (by omega), ?_, ?_⟩
      · simp only [hf]
        have hgk : g.2.getD p [] = g.2[p] := by rw [List.getD, List.getElem?_eq_getElem hpm]; rfl
        refine ha (g.2.getD p []) (by rw [hgk]; exact List.getElem_mem hpm) _ (List.getElem_mem hk)
      · simp only [I64]; omega
    · cases hx
set_option maxRecDepth 100000 in
set_option maxHeartbeats 4000000 in
theorem granks_any (Ag Am : Option Addr) (cg cm : Nat) (g : Gm) (w : World) (h : GmR w w.heap.size Ag Am g) :
    Calls Try.prog 4 #[.agg #[.slice Ag g.1.length cg, .slice Am g.2.length cm]] w fun e w' => e = .returned (.bool true) ∧ Below w.heap.size w w' := by
  have B1 := hid (show Below w.heap.size w (w.alloc (Obj.cells #[.slice Ag g.1.length cg, .slice Am g.2.length cm] 25)) by (repeat (first | exact Below.refl _ _ | assumption | refine below_drewN ?_ _ | refine Below.drew ?_ | refine Below.alloc ?_ (by (try simp); (try omega)) _ | refine Below.setCell ?_ (by (try simp); (try omega)) _)))
  have X1 := hid (Blk.new w 25 #[.slice Ag g.1.length cg, .slice Am g.2.length cm])
  have HA := hid h.acts
  have H := hid h
  have HS := hid (small_any (w.alloc (Obj.cells #[.slice Ag g.1.length cg, .slice Am g.2.length cm] 25)))
  clear h
  go_enter Try.func4, Try.ntmps4
  go_wp2_with fail
  refine HS.out.mono ?_
  rintro e w2 ⟨rfl, hB2⟩
  have B2 := hid (B1.out.trans (hB2.mono B1.out.size))
  have X2 := hid (X1.out.below hB2 X1.out.lt)
  have G2 := hid (H.out.to B2.out)
  clear hB2 B1 X1 HS
  have x0 := X2.out.cell 0; have x1 := X2.out.cell 1; have xz := X2.out.lt
  simp at x0 x1
  have HG := hid (given_any Ag Am cg cm g 200 (by omega) w2 G2.out)
  go_wp2_with fail
  refine HG.out.mono ?_
  rintro e w3 ⟨rfl, hB3⟩
  have B3 := hid (B2.out.trans (hB3.mono B2.out.size))
  have X3 := hid (X2.out.below hB3 X2.out.lt)
  have G3 := hid (H.out.to B3.out)
  clear hB3 B2 X2 HG G2 x0 x1 xz
  cases hgv : fewL g 200 && rightL g with
  | false =>
    as_aux_lemma =>
      go_wp2_with fail
      go_ret
      exact ⟨rfl, B3.out⟩
  | true =>
    rw [Bool.and_eq_true] at hgv
    have hok := hid (ok_of hgv.1 hgv.2 (by omega))
    clear hgv
    have HR := hid (ranks_any Ag Am cg cm g w3 G3.out hok.out)
    have x0 := X3.out.cell 0; have x1 := X3.out.cell 1; have xz := X3.out.lt
    simp at x0 x1
    go_wp2_with fail
    refine HR.out.mono ?_
    rintro e w4 ⟨v4, rfl, ho4, hB4⟩
    obtain ⟨AR, cR, rfl, hlR, hsR, hrn, hr1, hrb⟩ := rank_form hok.out ho4
    have B4 := hid (B3.out.trans (hB4.mono B3.out.size))
    have X4 := hid (X3.out.below hB4 X3.out.lt)
    have G4 := hid (H.out.to B4.out)
    have S4 := hid hsR
    have HLR := hid hlR; have HRN := hid hrn; have HR1 := hid hr1; have HRB := hid hrb
    clear ho4 hB4 hsR hlR hrn hr1 hrb x0 x1 xz HR X3 B3 G3
    have HR := hid (solve_any Ag Am cg cm g w4 G4.out hok.out)
    have x0 := X4.out.cell 0; have x1 := X4.out.cell 1; have xz := X4.out.lt
    simp at x0 x1
    go_wp2_with fail
    refine HR.out.mono ?_
    rintro e w5 ⟨v5, rfl, ho5, hB5⟩
    obtain ⟨AS, cS, rfl, hlS, hsS, hs1⟩ := solve_form hok.out ho5 (solve_rows hok.out HA.out)
    have B5 := hid (B4.out.trans (hB5.mono B4.out.size))
    have X5 := hid (X4.out.below hB5 X4.out.lt)
    have S5 := hid ((S4.out.below hB5).more hB5.size)
    have T5 := hid hsS
    have HS1 := hid hs1
    clear ho5 hB5 hsS hlS hs1 x0 x1 xz HR X4 B4 G4 S4
    have x0 := X5.out.cell 0; have x1 := X5.out.cell 1; have xz := X5.out.lt
    simp at x0 x1
    have hrk := hid (rankL_rk hok.out)
    have hlaw := hid (fun p hp hgo => rank_law hok.out hrk.out (p := p) hp hgo)
    have hzero := hid hrk.out.zero
    have hat := hid (fun (k : Nat) (hk : k < g.1.length) (x : Row) h => show ∃ ha : (rowsK g (rankL g) k).length < (solveL g).length, (solveL g)[(rowsK g (rankL g) k).length] = x from rowsK_at (g := g) (R := rankL g) hk (x := x) h)
    have hsl := hid (show solveL g = rowsK g (rankL g) g.1.length from rfl)
    generalize solveL g = rows at *
    generalize rankL g = R at *
    have hRl : (R.length : Int) = g.1.length := by have := HRN.out; omega
    have hgl : g.1.length ≤ 1000 := hok.out.s
    have hrl1 : rows.length ≤ 1000 := HS1.out
    go_wp2_with fail
    go_loopw [6, 7] (fun av iv wr => ∃ k : Nat, k ≤ R.length ∧ iv = .int .i64 k ∧ av = .int .i64 ((rowsK g R k).length : Nat) ∧ Below w.heap.size w wr ∧ Below w5.heap.size w5 wr) (fun _ iv _ => R.length - (intOf iv).toNat)
    case atStart => exact ⟨0, by omega, rfl, by simp [rowsK], B5.out, Below.refl _ _⟩
    case round =>
      clear x0 x1 xz
      obtain ⟨k, hk, rfl, rfl, hB, hB5⟩ := hrel
      have HB := hid hB; have HB5 := hid hB5
      have hkl := hid (rowsK_len g R k)
      by_cases hlt : k < R.length
      · have hlt' : (k : Int) < R.length := by omega
        have hkg : k < g.1.length := by omega
        have hkg' : (k : Int) < g.1.length := by omega
        have hkm : k < g.2.length := by have := hok.out.n; omega
        have hkm' : (k : Int) < g.2.length := by omega
        have X6 := hid (X5.out.below hB5 X5.out.lt)
        have S6 := hid ((S5.out.below hB5).more hB5.size)
        have x0 := X6.out.cell 0; have x1 := X6.out.cell 1; have xz := X6.out.lt
        simp at x0 x1
        obtain ⟨bR, oR, hAR, hbR, hcR, _⟩ := S5.out.int hlt
        obtain ⟨bG, oG, hAG, hbG, hcG⟩ := H.out.goal.bool hkg
        have hL := H.out.mvs.list hkm
        have hLm := hid (hok.out.m _ (List.getElem_mem hkm))
        have hLl := hok.out.l _ (List.getElem_mem hkm)
        have hgd := hid (show g.1.getD k false = g.1[k] by simp [List.getD, hkg])
        have hgm := hid (show g.2.getD k [] = g.2[k] by rw [List.getD, List.getElem?_eq_getElem hkm]; rfl)
        have hrb9 := (HRB.out _ (List.getElem_mem hlt)).2
        have hRd := hid (show R.getD k 0 = R[k] by simp [List.getD, hlt])
        have hst := hid (rowsK_succ g R k)
        generalize g.2[k] = l at *
        generalize g.1[k] = gi at *
        generalize R[k] = r at *
        obtain ⟨bM, oM, A', c', hAM, hbM, hcM, h5, h6, hsM⟩ := hL
        have HCG := hid hcG; have HCM := hid hcM; have HCR := hid hcR
        have HSM := hid hsM
        have hll : l.length ≤ 1000 := hLl
        clear hB hB5 hsM h5 h6 hLl hcG hcM hcR
        subst hAR
        subst hAG
        subst hAM
        go_wp2_with fail
        go_loopw [8, 9, 10] (fun lv av jv wq => ∃ j : Nat, j ≤ l.length ∧ jv = .int .i64 j ∧ lv = .int .i64 (leastL R (l.take j)).1 ∧ av = .int .i64 (leastL R (l.take j)).2 ∧ Below w.heap.size w wq ∧ Below w5.heap.size w5 wq ∧ (gi = true → j = 0)) (fun _ _ jv _ => l.length - (intOf jv).toNat)
        case atStart => exact ⟨0, by omega, rfl, by simp [leastL], by simp [leastL], HB.out, HB5.out, fun _ => rfl⟩
        case round =>
          clear x0 x1 xz X6 S6
          obtain ⟨j, hj, rfl, rfl, rfl, hB, hB5, hgj⟩ := hrel
          have HBQ := hid (And.intro hB hB5)
          have X6 := hid (X5.out.below hB5 X5.out.lt)
          have S6 := hid ((S5.out.below hB5).more hB5.size)
          have x0 := X6.out.cell 0; have x1 := X6.out.cell 1; have xz := X6.out.lt
          simp at x0 x1
          have hcG := (bcell hB bG _ hbG).trans HCG.out
          have hzG : bG < wr.heap.size := by have := hB.size; omega
          have hcM := (bcell hB bM _ hbM).trans HCM.out
          have hzM : bM < wr.heap.size := by have := hB.size; omega
          have hcR := (bcell hB5 bR _ hbR).trans HCR.out
          have hzR : bR < wr.heap.size := by have := hB5.size; omega
          cases gi with
          | true =>
            obtain rfl := hgj rfl
            have hr0 : r = 0 := by rw [← hRd.out]; exact (hzero.out k hkg).2 hgd.out
            subst hr0
            have hl0 := hid (show leastL R (l.take 0) = (-1, -1) by simp [leastL])
            rw [hl0.out]
            obtain ⟨ha, he⟩ := hat.out k hkg _ (rowF_zero hRd.out)
            obtain ⟨bS, oS, hAS, hbS, d1, d2, d3, _⟩ := T5.out.row ha
            rw [he] at d1 d2 d3
            replace d1 := (bcell hB5 bS _ hbS).trans d1
            replace d2 := (bcell hB5 bS _ hbS).trans d2
            replace d3 := (bcell hB5 bS _ hbS).trans d3
            have hzS : bS < wr.heap.size := by have := hB5.size; omega
            subst hAS
            have hrow := hid (show (rowsK g R (k + 1)).length = (rowsK g R k).length + 1 by rw [hst.out, (rowF_zero hRd.out)]; simp)
            simp only at d1 d2 d3
            generalize (rowsK g R k).length = m at *
            have ha' : (m : Int) < rows.length := by omega
            clear hB hB5 hst hgm hgd hRd hat hlaw hzero he
            as_aux_lemma =>
              go_wp2_with fail
              all_goals
                go_roundw
                case rel => exact ⟨k + 1, by omega, by go_num, by rw [hrow.out]; go_num, HBQ.out.1, HBQ.out.2⟩
                case measure => simp [intOf]; omega
          | false =>
            by_cases hjl : j < l.length
            · have hjl' : (j : Int) < l.length := by omega
              obtain ⟨hml, _, hne, hto⟩ := hLm.out _ (List.getElem_mem hjl)
              obtain ⟨b2, o2, A2, c2, rfl, hb2, m0, m1, h7, h8, hs2, _⟩ := HSM.out.mv hjl
              replace m0 := (bcell hB _ _ hb2).trans m0
              replace m1 := (bcell hB _ _ hb2).trans m1
              have hz2 : b2 < wr.heap.size := by have := hB.size; omega
              have hsucc := hid (leastL_succ R l j hjl)
              have HM := hid (most_any _ A2 cR c2 R l[j].1 l[j].2 wr HLR.out (Nat.le_trans h7 h8) S6.out ((hs2.below hB).more hB.size))
              have hmost := hid (show ∀ v, mostG R 0 l[j].2 = v → leastL R (l.take (j + 1)) = if 0 ≤ v ∧ ((leastL R (l.take j)).1 < 0 ∨ v < (leastL R (l.take j)).1) then (v, l[j].1) else leastL R (l.take j) from fun v hv => by rw [hsucc.out, lstep, hv])
              generalize l[j] = m at *
              obtain ⟨act, tos⟩ := m
              simp only at m0 m1 HM hmost
              generalize mostG R 0 tos = v at *
              have hm2 := hid (hmost.out v rfl)
              generalize leastL R (l.take j) = la at *
              obtain ⟨le, ac⟩ := la
              simp only at hm2
              clear hB hB5 hs2 h7 h8 hmost hsucc hml hne hto hcR hzR S6 X6
              by_cases hv : 0 ≤ v
              · by_cases hle : le < 0
                · rw [if_pos ⟨hv, .inl hle⟩] at hm2
                  as_aux_lemma =>
                    go_wp2_with fail
                    refine HM.out.mono ?_
                    rintro e w9 ⟨rfl, hB9⟩
                    have HB9 := hid (And.intro (HBQ.out.1.trans (hB9.mono HBQ.out.1.size)) (HBQ.out.2.trans (hB9.mono HBQ.out.2.size)))
                    have X9 := X5.out.below HB9.out.2 X5.out.lt
                    have x1 := X9.cell 1; have xz := X9.lt
                    simp at x1
                    have hcM := (bcell HB9.out.1 bM _ hbM).trans HCM.out
                    have hzM : bM < w9.heap.size := by have := HB9.out.1.size; omega
                    have m0 := (bcell hB9 b2 _ hz2).trans m0
                    have hz2 : b2 < w9.heap.size := by have := hB9.size; omega
                    clear hB9 X9 HM
                    go_wp2_with fail
                    go_roundw
                    case rel => exact ⟨j + 1, by omega, by go_num, by rw [hm2.out], by rw [hm2.out], HB9.out.1, HB9.out.2, fun h => by cases h⟩
                    case measure => simp [intOf]; omega
                · by_cases hvl : v < le
                  · rw [if_pos ⟨hv, .inr hvl⟩] at hm2
                    as_aux_lemma =>
                      go_wp2_with fail
                      refine HM.out.mono ?_
                      rintro e w9 ⟨rfl, hB9⟩
                      have HB9 := hid (And.intro (HBQ.out.1.trans (hB9.mono HBQ.out.1.size)) (HBQ.out.2.trans (hB9.mono HBQ.out.2.size)))
                      have X9 := X5.out.below HB9.out.2 X5.out.lt
                      have x1 := X9.cell 1; have xz := X9.lt
                      simp at x1
                      have hcM := (bcell HB9.out.1 bM _ hbM).trans HCM.out
                      have hzM : bM < w9.heap.size := by have := HB9.out.1.size; omega
                      have m0 := (bcell hB9 b2 _ hz2).trans m0
                      have hz2 : b2 < w9.heap.size := by have := hB9.size; omega
                      clear hB9 X9 HM
                      go_wp2_with fail
                      go_roundw
                      case rel => exact ⟨j + 1, by omega, by go_num, by rw [hm2.out], by rw [hm2.out], HB9.out.1, HB9.out.2, fun h => by cases h⟩
                      case measure => simp [intOf]; omega
                  · rw [if_neg (by omega)] at hm2
                    as_aux_lemma =>
                      go_wp2_with fail
                      refine HM.out.mono ?_
                      rintro e w9 ⟨rfl, hB9⟩
                      have HB9 := hid (And.intro (HBQ.out.1.trans (hB9.mono HBQ.out.1.size)) (HBQ.out.2.trans (hB9.mono HBQ.out.2.size)))
                      have X9 := X5.out.below HB9.out.2 X5.out.lt
                      have x1 := X9.cell 1; have xz := X9.lt
                      simp at x1
                      have hcM := (bcell HB9.out.1 bM _ hbM).trans HCM.out
                      have hzM : bM < w9.heap.size := by have := HB9.out.1.size; omega
                      have m0 := (bcell hB9 b2 _ hz2).trans m0
                      have hz2 : b2 < w9.heap.size := by have := hB9.size; omega
                      clear hB9 X9 HM
                      go_wp2_with fail
                      go_roundw
                      case rel => exact ⟨j + 1, by omega, by go_num, by rw [hm2.out], by rw [hm2.out], HB9.out.1, HB9.out.2, fun h => by cases h⟩
                      case measure => simp [intOf]; omega
              · rw [if_neg (by omega)] at hm2
                as_aux_lemma =>
                  go_wp2_with fail
                  refine HM.out.mono ?_
                  rintro e w9 ⟨rfl, hB9⟩
                  have HB9 := hid (And.intro (HBQ.out.1.trans (hB9.mono HBQ.out.1.size)) (HBQ.out.2.trans (hB9.mono HBQ.out.2.size)))
                  have X9 := X5.out.below HB9.out.2 X5.out.lt
                  have x1 := X9.cell 1; have xz := X9.lt
                  simp at x1
                  have hcM := (bcell HB9.out.1 bM _ hbM).trans HCM.out
                  have hzM : bM < w9.heap.size := by have := HB9.out.1.size; omega
                  have m0 := (bcell hB9 b2 _ hz2).trans m0
                  have hz2 : b2 < w9.heap.size := by have := hB9.size; omega
                  clear hB9 X9 HM
                  go_wp2_with fail
                  go_roundw
                  case rel => exact ⟨j + 1, by omega, by go_num, by rw [hm2.out], by rw [hm2.out], HB9.out.1, HB9.out.2, fun h => by cases h⟩
                  case measure => simp [intOf]; omega
            · obtain rfl : j = l.length := by omega
              rw [List.take_length]
              have hlw := hlaw.out k hkg hgd.out
              rw [hgm.out, hRd.out] at hlw
              rcases hlw with ⟨hl1, hr1⟩ | ⟨n, ac, hn0, hl1, hr1, hfa⟩
              · rw [hl1]
                subst hr1
                have hrow := hid (show (rowsK g R (k + 1)).length = (rowsK g R k).length by rw [hst.out, rowF_neg hRd.out (by omega) (by omega)]; simp)
                clear hB hB5 hst hgm hgd hRd hat hlaw hzero
                as_aux_lemma =>
                  go_wp2_with fail
                  go_roundw
                  case rel => exact ⟨k + 1, by omega, by go_num, by rw [hrow.out], HBQ.out.1, HBQ.out.2⟩
                  case measure => simp [intOf]; omega
              · rw [hl1]
                have hnb : n + 1 ≤ 1000 := by rw [← hr1]; exact hrb9
                subst hr1
                obtain ⟨ha, he⟩ := hat.out k hkg _ (rowF_pos hRd.out (by omega) hfa)
                obtain ⟨bS, oS, hAS, hbS, d1, d2, d3, _⟩ := T5.out.row ha
                rw [he] at d1 d2 d3
                replace d1 := (bcell hB5 bS _ hbS).trans d1
                replace d2 := (bcell hB5 bS _ hbS).trans d2
                replace d3 := (bcell hB5 bS _ hbS).trans d3
                have hzS : bS < wr.heap.size := by have := hB5.size; omega
                subst hAS
                have hrow := hid (show (rowsK g R (k + 1)).length = (rowsK g R k).length + 1 by rw [hst.out, (rowF_pos hRd.out (by omega) hfa)]; simp)
                simp only at d1 d2 d3
                generalize (rowsK g R k).length = m at *
                have ha' : (m : Int) < rows.length := by omega
                clear hB hB5 hst hgm hgd hRd hat hlaw hzero he
                as_aux_lemma =>
                  go_wp2_with fail
                  go_roundw
                  case rel => exact ⟨k + 1, by omega, by go_num, by rw [hrow.out]; go_num, HBQ.out.1, HBQ.out.2⟩
                  case measure => simp [intOf]; omega
      · obtain rfl : k = R.length := by omega
        have hend := hid (show rowsK g R R.length = rows by rw [hsl.out, HRN.out])
        clear hB hB5
        as_aux_lemma =>
          go_wp2_with fail
          go_ret
          exact ⟨ret_bool (by rw [hend.out]; simp), HB.out⟩
end Go.Proofs.Ytiaplhdgchbkkaa
