
/- Game: ascends, Right. -/
import Derived.Test.YtiaplhdgchbkkaaGamA
set_option linter.unusedSimpArgs false
set_option linter.unusedVariables false
namespace Go.Proofs.Ytiaplhdgchbkkaa
open Go.RowKit Go.IntWalk

theorem SlR.mv {w : World} {B : Nat} {A : Option Addr} {l : List Mv} (h : SlR w B A l) {k : Nat} (hk : k < l.length) : ∃ b off A' c', A = some ⟨b, off, none⟩ ∧ b < B ∧
    w.cell? ⟨b, off + k * 2, none⟩ = some (.int .i64 l[k].1) ∧ w.cell? ⟨b, off + k * 2 + 1, none⟩ = some (.slice A' l[k].2.length c') ∧ l[k].2.length ≤ c' ∧ c' ≤ maxLen ∧ SlR w B A' l[k].2 ∧ I64 l[k].1 := by
  obtain ⟨b, off, es, hA, hb, hs, hc, e1, e2, rfl, _, _, ⟨rfl, hi⟩, A', c', rfl, h1, h2, h3⟩ := h k _ (List.getElem?_eq_getElem hk)
  have h4 : Rep.size Mv = 2 := rfl
  rw [h4] at hc
  exact ⟨b, off, A', c', hA, hb, by simpa using hc 0 _ rfl, by simpa using hc 1 _ rfl, h1, h2, h3, hi⟩
theorem drop_cons {α : Type} (l : List α) (k : Nat) (hk : k < l.length) : l.drop k = l[k] :: l.drop (k + 1) := by rw [List.drop_eq_getElem_cons hk]
def lastK (l : List Int) (k : Nat) : Int := if k = 0 then -1 else l.getD (k - 1) 0
theorem lastK_succ (l : List Int) (k : Nat) (hk : k < l.length) : lastK l (k + 1) = l[k] := by simp [lastK, hk]
set_option maxRecDepth 100000 in
set_option maxHeartbeats 1000000 in
theorem ascends_any (A : Option Addr) (c : Nat) (l : List Int) (n : Int) (w : World) (hl : l.length ≤ maxLen) (h : SlR w w.heap.size A l) :
    Calls Try.prog 28 #[.slice A l.length c, .int .i64 n] w fun e w' => e = .returned (.bool (asc n (-1) l)) ∧ w = w' := by
  unfold maxLen at hl
  go_enter Try.func28, Try.ntmps28
  go_wp2_with fail
  go_loopw [9] (fun i wr => ∃ k : Nat, k ≤ l.length ∧ i = .int .i64 k ∧ w = wr ∧ asc n (-1) l = asc n (lastK l k) (l.drop k) ∧ -1 ≤ lastK l k) (fun i _ => l.length - (intOf i).toNat)
  case atStart => exact ⟨0, by omega, rfl, rfl, by simp [lastK], by simp [lastK]⟩
  case round =>
    obtain ⟨k, hk, rfl, rfl, ha, hlo⟩ := hrel
    have HA := hid ha
    have HLO := hid hlo
    clear ha hlo
    by_cases hlt : k < l.length
    · have hlt' : (k : Int) < l.length := by omega
      obtain ⟨b, off, rfl, hb, hc0, hi0⟩ := h.int hlt
      have hst : asc n (lastK l k) (l.drop k) = (decide (lastK l k < l[k]) && decide (l[k] < n) && asc n l[k] (l.drop (k + 1))) := by rw [drop_cons l k hlt]; rfl
      have HST := hid hst
      have HL := hid (lastK_succ l k hlt)
      have hprev : 0 < k → w.cell? ⟨b, off + (k - 1), none⟩ = some (.int .i64 (lastK l k)) := fun h0 => by
        have := h.int_at (k := k - 1) (by omega)
        rw [this]; simp [lastK, show ¬ k = 0 by omega, show k - 1 < l.length by omega]
      have hk0 : k = 0 → lastK l k = -1 := fun e => by simp [lastK, e]
      clear hst
      generalize l[k] = x at *
      generalize lastK l k = y at *
      clear hi0
      by_cases hx0 : x < 0
      · go_wp2_with fail
        go_ret
        exact ⟨ret_bool (by rw [HA.out, HST.out]; have := HLO.out; have : ¬ y < x := (by omega); simp [this]), rfl⟩
      by_cases hxn : n ≤ x
      · go_wp2_with fail
        go_ret
        exact ⟨ret_bool (by rw [HA.out, HST.out]; have : ¬ x < n := (by omega); simp [this]), rfl⟩
      by_cases hz : 0 < k
      · have hz' : (0 : Int) < k := by omega
        have hcp := hprev hz
        obtain ⟨j, rfl⟩ : ∃ j, k = j + 1 := ⟨k - 1, by omega⟩
        simp only [Nat.add_sub_cancel] at hcp
        clear hprev hk0
        by_cases hle : x ≤ y
        · go_wp2_with fail
          go_ret
          exact ⟨ret_bool (by rw [HA.out, HST.out]; have : ¬ y < x := (by omega); simp [this]), rfl⟩
        · go_wp2_with fail
          go_roundw
          case rel => exact ⟨j + 1 + 1, by omega, by go_num, by first | trivial | rfl, by rw [HA.out, HST.out, HL.out]; simp; omega, by rw [HL.out]; omega⟩
          case measure => simp [intOf]; omega
      · have hk9 : k = 0 := by omega
        have hy := hk0 hk9
        subst hk9
        clear hprev hk0
        simp only [Nat.add_zero] at hc0
        go_wp2_with fail
        go_roundw
        case rel => exact ⟨1, by omega, by go_num, by first | trivial | rfl, by rw [HA.out, HST.out, HL.out]; simp; omega, by rw [HL.out]; omega⟩
        case measure => simp [intOf]; omega
    · obtain rfl : k = l.length := by omega
      go_wp2_with fail
      go_ret
      exact ⟨ret_bool (by rw [HA.out]; simp [asc]), rfl⟩

/-- A game as an argument: where its two slices lie. -/
structure GmR (w : World) (B : Nat) (Ag Am : Option Addr) (g : Gm) : Prop where
  goal : SlR w B Ag g.1
  mvs : SlR w B Am g.2
  lg : g.1.length ≤ maxLen
  lm : g.2.length ≤ maxLen
theorem GmR.below {w w' : World} {B : Nat} {Ag Am : Option Addr} {g : Gm} (h : GmR w B Ag Am g) (hb : Below B w w') : GmR w' B Ag Am g := ⟨h.goal.below hb, h.mvs.below hb, h.lg, h.lm⟩
theorem GmR.more {w : World} {B B' : Nat} {Ag Am : Option Addr} {g : Gm} (h : GmR w B Ag Am g) (hB : B ≤ B') : GmR w B' Ag Am g := ⟨h.goal.more hB, h.mvs.more hB, h.lg, h.lm⟩
theorem GmR.to {w w' : World} {Ag Am : Option Addr} {g : Gm} (h : GmR w w.heap.size Ag Am g) (hb : Below w.heap.size w w') : GmR w' w'.heap.size Ag Am g := (h.below hb).more hb.size
def lastA (l : List Mv) (k : Nat) : Int := if k = 0 then -1 else (l.getD (k - 1) (0, [])).1
theorem lastA_succ (l : List Mv) (k : Nat) (hk : k < l.length) : lastA l (k + 1) = l[k].1 := by simp [lastA, hk]
theorem all_take {α : Type} (f : α → Bool) (l : List α) (k : Nat) (hk : k < l.length) : (l.take (k + 1)).all f = ((l.take k).all f && f l[k]) := by
  rw [List.take_add_one, List.getElem?_eq_getElem hk, List.all_append]
  simp
set_option maxRecDepth 100000 in
set_option maxHeartbeats 2000000 in
theorem right_any (Ag Am : Option Addr) (cg cm : Nat) (g : Gm) (w : World) (h : GmR w w.heap.size Ag Am g) :
    Calls Try.prog 11 #[.agg #[.slice Ag g.1.length cg, .slice Am g.2.length cm]] w fun e w' => e = .returned (.bool (rightL g)) ∧ Below w.heap.size w w' := by
  have hlg := h.lg; have hlm := h.lm
  unfold maxLen at hlg hlm
  obtain ⟨goal, mvs⟩ := g
  simp only at hlg hlm
  have H := hid h
  have hm := h.mvs
  simp only at hm
  clear h
  have hB1 := hid (show Below w.heap.size w (w.alloc (Obj.cells #[.slice Ag goal.length cg, .slice Am mvs.length cm] 25)) by (repeat (first | exact Below.refl _ _ | assumption | refine below_drewN ?_ _ | refine Below.drew ?_ | refine Below.alloc ?_ (by (try simp); (try omega)) _ | refine Below.setCell ?_ (by (try simp); (try omega)) _)))
  by_cases hne : goal.length = mvs.length
  case neg =>
    have hne' : ¬ (goal.length : Int) = mvs.length := by omega
    have hr := hid (show rightL (goal, mvs) = false by simp [rightL, hne])
    clear hne
    go_enter Try.func11, Try.ntmps11
    go_wp2_with fail
    go_ret
    exact ⟨ret_bool hr.out.symm, hB1.out⟩
  have hne' : (goal.length : Int) = mvs.length := by omega
  by_cases hbig : (2000000 : Int) < mvs.length
  · have hr := hid (show rightL (goal, mvs) = false by have : ¬ goal.length ≤ 2000000 := (by omega); simp [rightL, this])
    clear hne
    go_enter Try.func11, Try.ntmps11
    go_wp2_with fail
    go_ret
    exact ⟨ret_bool hr.out.symm, hB1.out⟩
  have hr := hid (show rightL (goal, mvs) = mvs.all (mvsOK mvs.length (-1)) by have : goal.length ≤ 2000000 := (by omega); simp [rightL, hne]; intro; omega)
  clear hne
  go_enter Try.func11, Try.ntmps11
  go_wp2_with fail
  go_loopw [24] (fun i wr => ∃ p : Nat, p ≤ mvs.length ∧ i = .int .i64 p ∧ Below w.heap.size w wr ∧ (mvs.take p).all (mvsOK mvs.length (-1)) = true) (fun i _ => mvs.length - (intOf i).toNat)
  case atStart => exact ⟨0, by omega, rfl, hB1.out, by simp⟩
  case round =>
    clear hB1
    obtain ⟨p, hp, rfl, hB, ha⟩ := hrel
    by_cases hlt : p < mvs.length
    · have hlt' : (p : Int) < mvs.length := by omega
      obtain ⟨b, off, A', c', rfl, hb, hc, h1, h2, h3⟩ := hm.list hlt
      replace hc := (bcell hB b _ hb).trans hc
      have hst := all_take (mvsOK mvs.length (-1)) mvs p hlt
      rw [ha, Bool.true_and] at hst
      have HST := hid hst
      have hfl : mvsOK mvs.length (-1) mvs[p] = false → mvs.all (mvsOK mvs.length (-1)) = false := fun hf => by
        cases hx : mvs.all (mvsOK mvs.length (-1)) with
        | false => rfl
        | true => rw [List.all_eq_true] at hx; rw [hx _ (List.getElem_mem hlt)] at hf; cases hf
      have HFL := hid hfl
      generalize mvs[p] = l at *
      have hB' := hid hB
      have hll : l.length ≤ 9223372036854775807 := by unfold maxLen at h2; omega
      have hbz : b < wr.heap.size := by have := hB.size; omega
      clear ha hst hfl hB h1 h2
      go_wp2_with fail
      go_loopw [6, 30] (fun la j wq => ∃ k : Nat, k ≤ l.length ∧ j = .int .i64 k ∧ la = .int .i64 (lastA l k) ∧ Below w.heap.size w wq ∧ mvsOK mvs.length (-1) l = mvsOK mvs.length (lastA l k) (l.drop k)) (fun _ j _ => l.length - (intOf j).toNat)
      case atStart => exact ⟨0, by omega, rfl, by simp [lastA], hB'.out, by simp [lastA]⟩
      case round =>
        clear hB'
        obtain ⟨k, hk, rfl, rfl, hBq, ha⟩ := hrel
        by_cases hlk : k < l.length
        · have hlk' : (k : Int) < l.length := by omega
          obtain ⟨b2, off2, A2, c2, rfl, hb2, g0, g1, _, g4, hs, _⟩ := h3.mv hlk
          replace g0 := (bcell hBq b2 _ hb2).trans g0
          replace g1 := (bcell hBq b2 _ hb2).trans g1
          have hz2 : b2 < wr.heap.size := by have := hBq.size; omega
          have hst2 : mvsOK mvs.length (lastA l k) (l.drop k) = (decide (lastA l k < l[k].1) && !l[k].2.isEmpty && asc mvs.length (-1) l[k].2 && mvsOK mvs.length l[k].1 (l.drop (k + 1))) := by rw [drop_cons l k hlk]; rfl
          have HS2 := hid (ha.trans hst2)
          have HLA := hid (lastA_succ l k hlk)
          clear ha hst2
          generalize l[k] = m at *
          obtain ⟨act, tos⟩ := m
          simp only at g0 g1
          have hto : tos.length ≤ maxLen := by simp only at *; omega
          have hto' : tos.length ≤ 9223372036854775807 := by unfold maxLen at hto; omega
          generalize lastA l k = la at *
          have hsB := (hs.below hBq).more hBq.size
          have HC := hid (ascends_any A2 c2 tos mvs.length (wr.alloc (Obj.cells #[.int .i64 act, .slice A2 tos.length c2] 41)) hto ((hsB.alloc (Nat.le_refl _) _).more (by simp)))
          have hBn := hid (show Below w.heap.size w (wr.alloc (Obj.cells #[.int .i64 act, .slice A2 tos.length c2] 41)) by exact hBq.alloc hBq.size _)
          have hfin := hid (fun (hx : mvsOK mvs.length (-1) l = false) => show false = rightL (goal, mvs) by rw [hr.out, HFL.out hx])
          clear hsB hs hBq h3 g4 hto
          by_cases hle : act ≤ la
          · as_aux_lemma =>
              go_wp2_with fail
              go_ret
              exact ⟨ret_bool (hfin.out (by rw [HS2.out]; have : ¬ la < act := (by omega); simp [this])), hBn.out⟩
          by_cases hem : tos = []
          · subst hem
            as_aux_lemma =>
              go_wp2_with fail
              go_ret
              exact ⟨ret_bool (hfin.out (by rw [HS2.out]; simp)), hBn.out⟩
          have hem0 : ¬ (tos.length : Int) = 0 := by
            intro h0
            exact hem (List.eq_nil_of_length_eq_zero (by omega))
          have HEM := hid hem
          clear hem
          cases hasc : asc mvs.length (-1) tos with
          | false =>
            rw [hasc] at HC HS2
            clear hasc
            as_aux_lemma =>
              go_wp2_with fail
              refine HC.out.mono ?_
              rintro e w9 ⟨rfl, rfl⟩
              go_wp2_with fail
              go_ret
              exact ⟨ret_bool (hfin.out (by rw [HS2.out]; simp)), hBn.out⟩
          | true =>
            rw [hasc] at HC HS2
            clear hasc
            as_aux_lemma =>
              go_wp2_with fail
              refine HC.out.mono ?_
              rintro e w9 ⟨rfl, rfl⟩
              go_wp2_with fail
              go_roundw
              case rel => exact ⟨k + 1, by omega, by go_num, by rw [HLA.out], hBn.out, by rw [HS2.out, HLA.out]; have := HEM.out; simp [this]; omega⟩
              case measure => simp [intOf]; omega
        · obtain rfl : k = l.length := by omega
          have hok := hid (show mvsOK mvs.length (-1) l = true by rw [ha]; simp [mvsOK])
          have hBw := hid hBq
          clear ha hBq
          go_wp2_with fail
          go_roundw
          case rel => exact ⟨p + 1, by omega, by go_num, hBw.out, by rw [HST.out, hok.out]⟩
          case measure => simp [intOf]; omega
    · obtain rfl : p = mvs.length := by omega
      have hB' := hid hB
      have hall := hid (show rightL (goal, mvs) = true by rw [hr.out, ← ha, List.take_length])
      clear ha hB
      go_wp2_with fail
      go_ret
      exact ⟨ret_bool hall.out.symm, hB'.out⟩
end Go.Proofs.Ytiaplhdgchbkkaa
