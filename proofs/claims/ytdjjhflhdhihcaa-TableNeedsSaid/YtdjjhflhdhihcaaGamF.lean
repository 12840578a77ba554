
/- Game: the reference's Ints and Few. -/
import Derived.Test.YtdjjhflhdhihcaaGamB
set_option linter.unusedSimpArgs false
set_option linter.unusedVariables false
namespace Go.Proofs.Ytdjjhflhdhihcaa
open Go.RowKit Go.IntWalk

theorem take_snoc_eq {α : Type} {l m : List α} {k : Nat} (hl : k < l.length) (hm : k < m.length) (h : l.take k = m.take k) (he : l[k] = m[k]) : l.take (k + 1) = m.take (k + 1) := by
  rw [List.take_add_one, List.take_add_one, List.getElem?_eq_getElem hl, List.getElem?_eq_getElem hm, h, he]
theorem take_snoc_ne {α : Type} {l m : List α} {k : Nat} (hl : k < l.length) (hm : k < m.length) (he : l[k] ≠ m[k]) : l ≠ m := fun e => he (by subst e; rfl)
abbrev fewM (l : List Mv) : Bool := decide (l.length ≤ 12) && l.all (fun m => decide (m.2.length ≤ 12))
/-- At most n positions, 12 moves in each of them, 12 answers. -/
def fewL (g : Gm) (n : Int) : Bool := g.2.all fewM && decide ((g.2.length : Int) ≤ n) && decide ((g.1.length : Int) ≤ n)
set_option maxRecDepth 100000 in
set_option maxHeartbeats 2000000 in
theorem few_any (Ag Am : Option Addr) (cg cm : Nat) (g : Gm) (n : Int) (hn : 0 ≤ n ∧ n ≤ 1000) (w : World) (h : GmR w w.heap.size Ag Am g) :
    Calls Try.prog 16 #[.agg #[.slice Ag g.1.length cg, .slice Am g.2.length cm], .int .i64 n] w fun e w' => e = .returned (.bool (fewL g n)) ∧ Below w.heap.size w w' := by
  have hlg := h.lg; have hlm := h.lm
  unfold maxLen at hlg hlm
  obtain ⟨goal, mvs⟩ := g
  simp only at hlg hlm
  have H := hid h
  have hm := h.mvs
  simp only at hm
  clear h
  have hB1 := hid (show Below w.heap.size w (w.alloc (Obj.cells #[.slice Ag goal.length cg, .slice Am mvs.length cm] 25)) by (repeat (first | exact Below.refl _ _ | assumption | refine below_drewN ?_ _ | refine Below.drew ?_ | refine Below.alloc ?_ (by (try simp); (try omega)) _ | refine Below.setCell ?_ (by (try simp); (try omega)) _)))
  have X1 := hid (Blk.new w 25 #[.slice Ag goal.length cg, .slice Am mvs.length cm])
  go_enter Try.func16, Try.ntmps16
  go_upto_region 1 with fail
  generalize hw1 : w.alloc (Obj.cells #[.slice Ag goal.length cg, .slice Am mvs.length cm] 25) = w1 at hB1 X1 ⊢
  clear hw1
  have HB1 := hB1
  have x0 := X1.out.cell 0; have x1 := X1.out.cell 1; have xz := X1.out.lt
  simp at x0 x1
  go_wp2_with fail
  go_loopw [5] (fun i wr => ∃ p : Nat, p ≤ mvs.length ∧ i = .int .i64 p ∧ w1 = wr ∧ (mvs.take p).all fewM = true) (fun i _ => mvs.length - (intOf i).toNat)
  case atStart => exact ⟨0, by omega, rfl, rfl, by simp⟩
  case round =>
    obtain ⟨p, hp, rfl, rfl, ha⟩ := hrel
    have HA := hid ha
    clear ha
    by_cases hlt : p < mvs.length
    · have hlt' : (p : Int) < mvs.length := by omega
      by_cases hpn : (p : Int) ≤ n
      · obtain ⟨b, off, A', c', rfl, hb, hc, h1, h2, h3⟩ := hm.list hlt
        replace hc := (bcell hB1.out b _ hb).trans hc
        have hst := hid (all_take fewM mvs p hlt)
        have hfl := hid (show fewM mvs[p] = false → mvs.all fewM = false from fun hf => by
          cases hx : mvs.all fewM with
          | false => rfl
          | true => rw [List.all_eq_true] at hx; rw [hx _ (List.getElem_mem hlt)] at hf; cases hf)
        have hfin := hid (show mvs.all fewM = false → false = fewL (goal, mvs) n from fun hx => by simp only [fewL]; rw [hx]; rfl)
        generalize mvs[p] = l at *
        have hbz : b < w1.heap.size := by have := hB1.out.size; omega
        have hll : l.length ≤ 9223372036854775807 := by unfold maxLen at h2; omega
        clear h1 h2
        by_cases h12 : (12 : Int) < l.length
        · as_aux_lemma =>
            go_wp2_with fail
            go_ret
            exact ⟨ret_bool (hfin.out (hfl.out (by have : ¬ l.length ≤ 12 := (by omega); simp [fewM, this]))), HB1.out⟩
        · go_wp2_with fail
          go_loopw [6] (fun j wq => ∃ k : Nat, k ≤ l.length ∧ j = .int .i64 k ∧ w1 = wq ∧ (l.take k).all (fun m => decide (m.2.length ≤ 12)) = true) (fun j _ => l.length - (intOf j).toNat)
          case atStart => exact ⟨0, by omega, rfl, rfl, by simp⟩
          case round =>
            obtain ⟨k, hk, rfl, rfl, hq⟩ := hrel
            have HQ := hid hq
            clear hq
            by_cases hlk : k < l.length
            · have hlk' : (k : Int) < l.length := by omega
              obtain ⟨b2, off2, A2, c2, rfl, hb2, _, g1, g3, g4, _, _⟩ := h3.mv hlk
              replace g1 := (bcell hB1.out b2 _ hb2).trans g1
              have hz2 : b2 < w1.heap.size := by have := hB1.out.size; omega
              have hst2 := hid (all_take (fun m : Mv => decide (m.2.length ≤ 12)) l k hlk)
              have hfl2 := hid (show ¬ l[k].2.length ≤ 12 → fewM l = false from fun hf => by
                have : l.all (fun m => decide (m.2.length ≤ 12)) = false := by
                  cases hx : l.all (fun m => decide (m.2.length ≤ 12)) with
                  | false => rfl
                  | true => rw [List.all_eq_true] at hx; have := hx _ (List.getElem_mem hlk); simp only [decide_eq_true_eq] at this; exact absurd this hf
                simp only [fewM]; rw [this]; simp)
              generalize l[k] = m at *
              obtain ⟨act, tos⟩ := m
              simp only at g1 g3 g4
              have ht : tos.length ≤ 9223372036854775807 := by unfold maxLen at g4; omega
              clear g4 g3
              by_cases h13 : (12 : Int) < tos.length
              · as_aux_lemma =>
                  go_wp2_with fail
                  go_ret
                  exact ⟨ret_bool (hfin.out (hfl.out (hfl2.out (by show ¬ tos.length ≤ 12; omega)))), HB1.out⟩
              · as_aux_lemma =>
                  go_wp2_with fail
                  go_roundw
                  case rel => exact ⟨k + 1, by omega, by go_num, by first | trivial | rfl, by rw [hst2.out, HQ.out]; simp; omega⟩
                  case measure => simp [intOf]; omega
            · obtain rfl : k = l.length := by omega
              as_aux_lemma =>
                go_wp2_with fail
                go_roundw
                case rel => exact ⟨p + 1, by omega, by go_num, by first | trivial | rfl, by rw [hst.out, HA.out]; have h5 := HQ.out; rw [List.take_length] at h5; simp only [fewM, h5]; simp; omega⟩
                case measure => simp [intOf]; omega
      · have hbig : ¬ (mvs.length : Int) ≤ n := by omega
        have hr := hid (show fewL (goal, mvs) n = false by simp [fewL, hbig])
        as_aux_lemma =>
          go_wp2_with fail
          go_ret
          exact ⟨ret_bool hr.out.symm, HB1.out⟩
    · obtain rfl : p = mvs.length := by omega
      have hall := hid (show fewL (goal, mvs) n = (decide ((mvs.length : Int) ≤ n) && decide ((goal.length : Int) ≤ n)) by
        have h5 := HA.out
        rw [List.take_length] at h5
        simp only [fewL]
        rw [h5, Bool.true_and])
      by_cases e1 : (mvs.length : Int) ≤ n
      · by_cases e2 : (goal.length : Int) ≤ n
        · as_aux_lemma =>
            go_wp2_with fail
            go_ret
            exact ⟨ret_bool (by rw [hall.out]; simp [e1, e2]), HB1.out⟩
        · as_aux_lemma =>
            go_wp2_with fail
            go_ret
            exact ⟨ret_bool (by rw [hall.out]; have : ¬ (goal.length : Int) ≤ n := (by omega); simp [this]), HB1.out⟩
      · as_aux_lemma =>
          go_wp2_with fail
          go_ret
          exact ⟨ret_bool (by rw [hall.out]; have : ¬ (mvs.length : Int) ≤ n := (by omega); simp [this]), HB1.out⟩
end Go.Proofs.Ytdjjhflhdhihcaa
