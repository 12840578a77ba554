
/- Game: Answer. -/
import Derived.Test.YtiaplhdgchbkkaaGamJ
import Derived.Test.YtiaplhdgchbkkaaGamC
set_option linter.unusedSimpArgs false
set_option linter.unusedVariables false
namespace Go.Proofs.Ytiaplhdgchbkkaa
open Go.RowKit Go.IntWalk Go.Shelf

def wstep (R : List Int) (wst p : Int) : Int := if 0 ≤ R.getD wst.toNat 0 ∧ (R.getD p.toNat 0 < 0 ∨ R.getD wst.toNat 0 < R.getD p.toNat 0) then p else wst
/-- The worst of the positions of a move. -/
def worstL (R : List Int) (tos : List Int) : Int := tos.foldl (wstep R) (tos.headD 0)
def answerL (g : Gm) (R : List Int) (pos act : Int) : Int × Bool :=
  if pos < 0 ∨ (g.2.length : Int) ≤ pos ∨ R.length ≠ g.2.length then (0, false) else match (g.2.getD pos.toNat []).find? (fun m => decide (m.1 = act)) with
    | none => (0, false)
    | some m => (worstL R m.2, true)
theorem wstep_mem {R : List Int} {a b : Int} {l : List Int} (ha : a ∈ l) (hb : b ∈ l) : wstep R a b ∈ l := by unfold wstep; split <;> assumption
theorem worst_mem {R : List Int} : ∀ (tos : List Int) (a : Int) (l : List Int), (∀ x ∈ tos, x ∈ l) → a ∈ l → tos.foldl (wstep R) a ∈ l
  | [], _, _, _, ha => ha
  | x :: tos, a, l, h, ha => worst_mem tos (wstep R a x) l (fun y hy => h y (List.mem_cons_of_mem _ hy)) (wstep_mem ha (h x (List.mem_cons_self ..)))
def actF (l : List Mv) (act : Int) (j : Nat) : Bool := decide ((l.getD j (0, [])).1 = act)
theorem find_ix {l : List Mv} {act : Int} {r : Int} (h : IxR (actF l act) l.length r) : (∃ k, ∃ hk : k < l.length, r = k ∧ l.find? (fun m => decide (m.1 = act)) = some l[k]) ∨ (r = -1 ∧ l.find? (fun m => decide (m.1 = act)) = none) := by
  rcases h with ⟨k, hk, rfl, h1, h2⟩ | ⟨rfl, h1⟩
  · refine .inl ⟨k, hk, rfl, ?_⟩
    rw [List.find?_eq_some_iff_getElem]
    refine ⟨by simpa [actF, hk] using h1, k, hk, rfl, fun j hj => ?_⟩
    have := h2 j hj
    simp [actF, show j < l.length by omega] at this
    simpa using this
  · refine .inr ⟨rfl, ?_⟩
    rw [List.find?_eq_none]
    intro x hx
    obtain ⟨j, hj, rfl⟩ := List.getElem_of_mem hx
    have := h1 j hj
    simp [actF, hj] at this
    simpa using this
set_option maxRecDepth 100000 in
set_option maxHeartbeats 4000000 in
theorem answer_any (Ag Am A : Option Addr) (cg cm c : Nat) (g : Gm) (R : List Int) (pos act : Int) (w : World) (h : GmR w w.heap.size Ag Am g) (hg : GmOK g) (hl : R.length ≤ maxLen) (hR : SlR w w.heap.size A R) :
    Calls Try.prog 14 #[.agg #[.slice Ag g.1.length cg, .slice Am g.2.length cm], .slice A R.length c, .int .i64 pos, .int .i64 act] w fun e w' =>
      e = .returned (.tuple #[.int .i64 (answerL g R pos act).1, .bool (answerL g R pos act).2]) ∧ Below w.heap.size w w' := by
  have hn := hg.n
  obtain ⟨goal, mvs⟩ := g
  simp only at *
  have HN := hid hn
  clear hn
  have hlm : mvs.length ≤ 9223372036854775807 := by have := h.lm; unfold maxLen at this; simpa using this
  have hlR : R.length ≤ 9223372036854775807 := by unfold maxLen at hl; omega
  obtain ⟨w1, hw1⟩ : ∃ w1, w1 = (w.alloc (Obj.cells #[.slice Ag goal.length cg, .slice Am mvs.length cm] 25)) := ⟨_, rfl⟩
  obtain ⟨w2, hw2⟩ : ∃ w2, w2 = (w1.alloc (Obj.cells #[.int .i64 act] 3)) := ⟨_, rfl⟩
  have s1 : w1.heap.size = w.heap.size + 1 := by rw [hw1]; simp
  have s2 : w2.heap.size = w.heap.size + 1 + 1 := by rw [hw2]; simp [s1]
  have B2 : Below w.heap.size w w2 := by rw [hw2, hw1]; (repeat (first | exact Below.refl _ _ | assumption | refine below_drewN ?_ _ | refine Below.drew ?_ | refine Below.alloc ?_ (by (try simp); (try omega)) _ | refine Below.setCell ?_ (by (try simp); (try omega)) _))
  have x1 : Blk w2 w.heap.size 25 #[.slice Ag goal.length cg, .slice Am mvs.length cm] := by rw [hw2, hw1]; exact (Blk.new w _ _).alloc _
  have x2 : Blk w2 (w.heap.size + 1) 3 #[.int .i64 act] := by rw [hw2]; exact Blk.new_at (by rw [s1])
  have y1 := x1.cell 1; have z1 := x1.lt; have z2 := x2.lt
  simp at y1
  have HW1 := hid hw1; have HW2 := hid hw2
  have BB := hid B2; have X1 := hid x1; have X2 := hid x2
  have H := hid h; have HR := hid hR; have HG := hid hg
  clear hw1 hw2 B2 x1 x2 h hR hg
  by_cases hbad : pos < 0 ∨ (mvs.length : Int) ≤ pos ∨ R.length ≠ mvs.length
  · have hA := hid (show answerL (goal, mvs) R pos act = (0, false) by unfold answerL; rw [if_pos hbad])
    go_enter Try.func14, Try.ntmps14
    go_upto_region 1 with fail
    rw [← HW1.out, ← HW2.out]
    by_cases h1 : pos < 0
    · clear hbad
      go_wp2_with fail
      refine bodyPost_ret (v := .tuple #[.int .i64 0, .bool false]) (by simp [results, Try.results14, go_sem]) rfl ⟨by rw [hA.out], BB.out⟩
    by_cases h2 : (mvs.length : Int) ≤ pos
    · clear hbad
      go_wp2_with fail
      refine bodyPost_ret (v := .tuple #[.int .i64 0, .bool false]) (by simp [results, Try.results14, go_sem]) rfl ⟨by rw [hA.out], BB.out⟩
    have h3 : ¬ (R.length : Int) = mvs.length := by omega
    clear hbad
    go_wp2_with fail
    refine bodyPost_ret (v := .tuple #[.int .i64 0, .bool false]) (by simp [results, Try.results14, go_sem]) rfl ⟨by rw [hA.out], BB.out⟩
  have h1 : ¬ pos < 0 := by omega
  obtain ⟨p, rfl⟩ : ∃ p : Nat, pos = p := ⟨pos.toNat, by omega⟩
  have hp : p < mvs.length := by omega
  have hp' : (p : Int) < mvs.length := by omega
  have h3 : (R.length : Int) = mvs.length := by omega
  have hrl : R.length = mvs.length := by omega
  have hA0 : answerL (goal, mvs) R p act = match mvs[p].find? (fun m => decide (m.1 = act)) with | none => (0, false) | some m => (worstL R m.2, true) := by unfold answerL; rw [if_neg hbad]; simp [hp]
  have HA0 := hid hA0
  clear hbad h1 hA0
  have hL := H.out.mvs.list hp
  have hM := hid (HG.out.m _ (List.getElem_mem hp))
  have hLL := HG.out.l _ (List.getElem_mem hp)
  simp only at hL hM hLL HA0
  generalize mvs[p] = l at *
  obtain ⟨b, off, A', c', rfl, hb, hc, h5, h6, hs⟩ := hL
  have hc4 := (bcell BB.out b _ hb).trans hc
  have hz : b < w2.heap.size := by have := BB.out.size; omega
  have hs4 := (hs.below BB.out).more BB.out.size
  have HC := hid (ixm_any 31 #[.pointer (some ⟨w.heap.size + 1, 0, none⟩)] (enters_of Try.func31 (by kernel_rfl) rfl) A' c' l (actF l act) w2 (Nat.le_trans h5 h6) hs4 (fun k hk W A2 c2 hW _ _ => by
    have hgd : actF l act k = decide (l[k].1 = act) := by simp [actF, hk]
    rw [hgd]
    exact (act_any act l[k].1 A2 c2 _ _ W (X2.out.below hW X2.out.lt)).mono (fun e w' ⟨he, hb⟩ => ⟨he, hW.trans (hb.mono hW.size)⟩)))
  have HS := hid hs
  have hc0 := hid hc
  have hbz := hb
  clear hs hs4 hc h5 h6
  go_enter Try.func14, Try.ntmps14
  go_upto_region 1 with fail
  rw [← HW1.out, ← HW2.out]
  go_wp2_with fail
  refine HC.out.mono ?_
  rintro e w3 ⟨r, rfl, hr, hB3⟩
  have B3 := hid (BB.out.trans (hB3.mono BB.out.size))
  have X3 := X1.out.below hB3 X1.out.lt
  have y1 := X3.cell 1; have z1 := X3.lt
  simp at y1
  have hc3 := (bcell B3.out b _ hbz).trans hc0.out
  have hz3 : b < w3.heap.size := by have := B3.out.size; omega
  clear hB3 X3 HC hc4 hz
  rcases find_ix hr with ⟨k, hk, rfl, hf⟩ | ⟨rfl, hf⟩
  · have hA := hid (HA0.out.trans (by rw [hf]))
    clear hf hr HA0
    have hk' : (k : Int) < l.length := by omega
    have hkb : k < 1000 := by omega
    obtain ⟨hml, _, hne, hto⟩ := hM.out l[k] (List.getElem_mem hk)
    obtain ⟨b2, off2, A2, c2, rfl, hb2, _, g1, _, _, hs2, _⟩ := HS.out.mv hk
    replace g1 := (bcell B3.out b2 _ hb2).trans g1
    have hz2 : b2 < w3.heap.size := by have := B3.out.size; omega
    simp only at hA
    generalize l[k] = m at *
    obtain ⟨a0, tos⟩ := m
    simp only at g1 hs2 hml hne hto hA
    have hto' := hid (show ∀ x ∈ tos, 0 ≤ x ∧ x < R.length from fun x hx => by have := hto x hx; have := HN.out; omega)
    have hpos : 0 < tos.length := List.length_pos_iff.2 hne
    have hpos' : (0 : Int) < tos.length := by omega
    obtain ⟨b4, off4, rfl, hb4, hd, _⟩ := hs2.int hpos
    replace hd := (bcell B3.out b4 _ hb4).trans hd
    simp only [Nat.add_zero] at hd
    have hz4 : b4 < w3.heap.size := by have := B3.out.size; omega
    have hh0 := hid (show worstL R tos = tos.foldl (wstep R) tos[0] by cases tos with | nil => simp at hpos | cons a t => rfl)
    have hm0 := hid (List.getElem_mem hpos)
    have HS2 := hid hs2
    generalize tos[0] = t0 at *
    clear hto hs2 hne
    go_wp2_with fail
    go_loopw [12, 55] (fun wv j wr => ∃ (k : Nat) (wst : Int), k ≤ tos.length ∧ j = .int .i64 k ∧ wv = .int .i64 wst ∧ Below w.heap.size w wr ∧ wst ∈ tos ∧ worstL R tos = (tos.drop k).foldl (wstep R) wst) (fun _ j _ => tos.length - (intOf j).toNat)
    case atStart => exact ⟨0, t0, by omega, rfl, rfl, B3.out, hm0.out, by rw [hh0.out]; simp⟩
    case round =>
      clear B3 y1 z1 hc3 hz3 g1 hz2 hd hz4
      obtain ⟨k, wst, hk, rfl, rfl, hB, hw, hf⟩ := hrel
      have HB := hid hB
      have HWm := hid hw
      have HF := hid hf
      by_cases hlt : k < tos.length
      · have hlt' : (k : Int) < tos.length := by omega
        have hd := HS2.out.int_at hlt
        replace hd := (bcell hB b4 _ hb4).trans hd
        have hz4 : b4 < wr.heap.size := by have := hB.size; omega
        have hmk := hid (List.getElem_mem hlt)
        have hst := hid (show (tos.drop k).foldl (wstep R) wst = (tos.drop (k + 1)).foldl (wstep R) (wstep R wst tos[k]) by rw [drop_cons tos k hlt]; rfl)
        obtain ⟨hx0, hx1⟩ := hto'.out _ (List.getElem_mem hlt)
        obtain ⟨hy0, hy1⟩ := hto'.out _ hw
        generalize tos[k] = x at *
        obtain ⟨xn, rfl⟩ : ∃ n : Nat, x = n := ⟨x.toNat, by omega⟩
        obtain ⟨yn, rfl⟩ : ∃ n : Nat, wst = n := ⟨wst.toNat, by omega⟩
        have hxn : xn < R.length := by omega
        have hyn : yn < R.length := by omega
        obtain ⟨b5, off5, rfl, hb5, hr1, _⟩ := HR.out.int hxn
        have hr2 := HR.out.int_at hyn
        replace hr1 := (bcell hB b5 _ hb5).trans hr1
        replace hr2 := (bcell hB b5 _ hb5).trans hr2
        have hz5 : b5 < wr.heap.size := by have := hB.size; omega
        have hws := hid (show wstep R yn xn = if 0 ≤ R[yn] ∧ (R[xn] < 0 ∨ R[yn] < R[xn]) then (xn : Int) else yn by simp [wstep, hxn, hyn])
        clear hB hw hf
        generalize R[xn] = u at *
        generalize R[yn] = v at *
        have hHX := hid hx0
        clear hx0 hy0
        by_cases hv : 0 ≤ v
        · have dv : decide (0 ≤ v) = true := by simpa using hv
          by_cases hu : u < 0
          · have du : decide (u < 0) = true := by simpa using hu
            as_aux_lemma =>
              go_wp2_with fail
              go_quiet (fail)
              go_wp2_with fail
              go_roundw
              case rel => exact ⟨k + 1, xn, by omega, by go_num, rfl, below_drewN HB.out _, hmk.out, by rw [HF.out, hst.out, hws.out, if_pos ⟨hv, .inl hu⟩]⟩
              case measure => simp [intOf]; omega
          · have du : decide (u < 0) = false := by simpa using hu
            by_cases huv : v < u
            · have duv : decide (v < u) = true := by simpa using huv
              as_aux_lemma =>
                go_wp2_with fail
                go_quiet (fail)
                go_wp2_with fail
                go_roundw
                case rel => exact ⟨k + 1, xn, by omega, by go_num, rfl, below_drewN HB.out _, hmk.out, by rw [HF.out, hst.out, hws.out, if_pos ⟨hv, .inr huv⟩]⟩
                case measure => simp [intOf]; omega
            · have duv : decide (v < u) = false := by simpa using huv
              as_aux_lemma =>
                go_wp2_with fail
                go_quiet (fail)
                go_wp2_with fail
                go_roundw
                case rel => exact ⟨k + 1, yn, by omega, by go_num, rfl, below_drewN HB.out _, HWm.out, by rw [HF.out, hst.out, hws.out, if_neg (by omega)]⟩
                case measure => simp [intOf]; omega
        · have dv : decide (0 ≤ v) = false := by simpa using hv
          as_aux_lemma =>
            go_wp2_with fail
            go_quiet (fail)
            go_wp2_with fail
            go_roundw
            case rel => exact ⟨k + 1, yn, by omega, by go_num, rfl, below_drewN HB.out _, HWm.out, by rw [HF.out, hst.out, hws.out, if_neg (by omega)]⟩
            case measure => simp [intOf]; omega
      · obtain rfl : k = tos.length := by omega
        have hfin := hid (show worstL R tos = wst by rw [HF.out]; simp)
        clear hB hw hf
        go_wp2_with fail
        refine bodyPost_ret (v := .tuple #[.int .i64 wst, .bool true]) (by simp [results, Try.results14, go_sem]) rfl ⟨by rw [hA.out, hfin.out], HB.out⟩
  · have hA := hid (HA0.out.trans (by rw [hf]))
    clear hf hr HA0
    go_wp2_with fail
    refine bodyPost_ret (v := .tuple #[.int .i64 0, .bool false]) (by simp [results, Try.results14, go_sem]) rfl ⟨by rw [hA.out], B3.out⟩
end Go.Proofs.Ytiaplhdgchbkkaa
