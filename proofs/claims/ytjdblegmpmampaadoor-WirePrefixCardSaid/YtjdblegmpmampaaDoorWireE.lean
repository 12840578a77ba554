/- Wire: values; 'few'. -/
import Derived.Test.YtjdblegmpmampaaDoorWireD
set_option linter.unusedSimpArgs false
set_option linter.unusedVariables false
namespace Go.Proofs.YtjdblegmpmampaaDoor
open Go.RowKit Go.IntWalk

abbrev Val := Int × Int × ByteArray × List Int × List ByteArray
theorem val_rep {w : World} {B : Nat} {es : List Value} {v : Val} (h : Rep.rep w B es v) : ∃ A1 c1 A2 c2, es = [.int .i64 v.1, .int .i64 v.2.1, .string v.2.2.1, .slice A1 v.2.2.2.1.length c1, .slice A2 v.2.2.2.2.length c2] ∧ I64 v.1 ∧ I64 v.2.1 ∧ v.2.2.1.size ≤ maxLen ∧
    v.2.2.2.1.length ≤ c1 ∧ c1 ≤ maxLen ∧ SlR w B A1 v.2.2.2.1 ∧ v.2.2.2.2.length ≤ c2 ∧ c2 ≤ maxLen ∧ SlR w B A2 v.2.2.2.2 := by
  obtain ⟨e1, e2, rfl, _, _, ⟨rfl, h1⟩, e3, e4, rfl, _, _, ⟨rfl, h2⟩, e5, e6, rfl, _, _, ⟨rfl, h3⟩, e7, e8, rfl, _, _, ⟨A1, c1, rfl, h4, h5, h6⟩, A2, c2, rfl, h7, h8, h9⟩ := h
  exact ⟨A1, c1, A2, c2, rfl, h1, h2, h3, h4, h5, h6, h7, h8, h9⟩
theorem SlR.val {w : World} {B : Nat} {A : Option Addr} {l : List Val} (h : SlR w B A l) {k : Nat} (hk : k < l.length) : ∃ b off A1 c1 A2 c2, A = some ⟨b, off, none⟩ ∧ b < B ∧
    w.cell? ⟨b, off + k * 5 + 2, none⟩ = some (.string l[k].2.2.1) ∧ w.cell? ⟨b, off + k * 5 + 3, none⟩ = some (.slice A1 l[k].2.2.2.1.length c1) ∧ w.cell? ⟨b, off + k * 5 + 4, none⟩ = some (.slice A2 l[k].2.2.2.2.length c2) ∧
    l[k].2.2.1.size ≤ maxLen ∧ l[k].2.2.2.1.length ≤ maxLen ∧ l[k].2.2.2.2.length ≤ maxLen ∧ SlR w B A1 l[k].2.2.2.1 ∧ SlR w B A2 l[k].2.2.2.2 := by
  obtain ⟨b, off, es, hA, hb, hs, hc, hr⟩ := h k _ (List.getElem?_eq_getElem hk)
  obtain ⟨A1, c1, A2, c2, rfl, _, _, h3, h4, h5, h6, h7, h8, h9⟩ := val_rep hr
  have h5' : Rep.size Val = 5 := rfl
  rw [h5'] at hc
  exact ⟨b, off, A1, c1, A2, c2, hA, hb, hc 2 _ rfl, hc 3 _ rfl, hc 4 _ rfl, h3, Nat.le_trans h4 h5, Nat.le_trans h7 h8, h6, h9⟩

def sumS (l : List ByteArray) : Nat := (l.map (·.size)).sum
def tot (v : Val) : Nat := v.2.2.1.size + v.2.2.2.1.length + v.2.2.2.2.length + sumS v.2.2.2.2
structure Ok (v : Val) : Prop where
  l : v.2.2.2.1.length ≤ 400
  t : v.2.2.2.2.length ≤ 400
  s : v.2.2.1.size ≤ 400
  e : ∀ x ∈ v.2.2.2.2, x.size ≤ 400
/-- Few values. -/
structure Few (l : List Val) : Prop where
  n : l.length ≤ 20
  o : ∀ v ∈ l, Ok v
  t : (l.map tot).sum ≤ 400
open Classical in
noncomputable def fewB (l : List Val) : Bool := decide (Few l)
theorem fewB_no {l : List Val} (h : ¬ Few l) : fewB l = false := by simp [fewB, h]
theorem fewB_yes {l : List Val} (h : Few l) : fewB l = true := by simp [fewB, h]
theorem sumS_step (l : List ByteArray) (k : Nat) (h : k < l.length) : sumS (l.take (k + 1)) = sumS (l.take k) + l[k].size := by
  rw [List.take_add_one, List.getElem?_eq_getElem h]
  unfold sumS
  rw [List.map_append, List.sum_append]
  show _ + ([l[k].size].sum) = _
  simp
theorem sumS_le {l : List ByteArray} (k : Nat) (h : ∀ x ∈ l.take k, x.size ≤ 400) : sumS (l.take k) ≤ k * 400 := by
  induction k with
  | zero => simp [sumS]
  | succ k ih =>
    rcases Nat.lt_or_ge k l.length with hk | hk
    · rw [sumS_step l k hk]
      have h1 := ih (fun x hx => h x (List.mem_of_mem_take (i := k) (by rw [List.take_take, Nat.min_eq_left (Nat.le_succ k)]; exact hx)))
      have h2 := h l[k] (by rw [List.take_add_one, List.getElem?_eq_getElem hk]; exact List.mem_append_right _ (List.mem_singleton.2 rfl))
      omega
    · have e1 : l.take (k + 1) = l := List.take_of_length_le (Nat.le_succ_of_le hk)
      have e2 : l.take k = l := List.take_of_length_le hk
      rw [e1] at h
      rw [e2] at ih
      rw [e1]
      exact Nat.le_trans (ih h) (by rw [Nat.succ_mul]; exact Nat.le_add_right _ _)
theorem tot_step (l : List Val) (k : Nat) (h : k < l.length) : ((l.take (k + 1)).map tot).sum = ((l.take k).map tot).sum + tot l[k] := by
  rw [List.take_add_one, List.getElem?_eq_getElem h, List.map_append, List.sum_append]
  show _ + ([tot l[k]].sum) = _
  simp
theorem tot_le {v : Val} (h : Ok v) : tot v ≤ 161200 := by
  have := sumS_le (l := v.2.2.2.2) v.2.2.2.2.length (fun x hx => h.e x (List.mem_of_mem_take hx))
  rw [List.take_length] at this
  have := h.l; have := h.t; have := h.s
  unfold tot
  omega

set_option maxRecDepth 20000 in
set_option maxHeartbeats 2000000 in
theorem few_any (A : Option Addr) (c : Nat) (l : List Val) (w : World) (hl : l.length ≤ maxLen) (hs : SlR w w.heap.size A l) :
    Calls Tryd.prog 10 #[.slice A l.length c] w fun e w' => e = .returned (.bool (fewB l)) ∧ Below w.heap.size w w' := by
  unfold maxLen at hl
  by_cases h20 : (l.length : Int) ≤ 20
  case neg =>
    have hr := hid (fewB_no (l := l) (fun h => by have := h.n; omega))
    go_enter Tryd.func10, Tryd.ntmps10
    go_wp2_with fail
    go_ret
    exact ⟨ret_bool hr.out.symm, by (repeat (first | exact Below.refl _ _ | assumption | refine below_drewN ?_ _ | refine Below.drew ?_ | refine Below.alloc ?_ (by (try simp); (try omega)) _ | refine Below.setCell ?_ (by (try simp); (try omega)) _))⟩
  go_enter Tryd.func10, Tryd.ntmps10
  go_wp2_with fail
  go_loopw [3, 4] (fun n i wr => ∃ k m : Nat, k ≤ l.length ∧ i = .int .i64 k ∧ n = .int .i64 m ∧ Hid (m = ((l.take k).map tot).sum) ∧ m ≤ k * 161200 ∧ Hid (∀ v ∈ l.take k, Ok v) ∧ Below w.heap.size w wr) (fun _ i _ => l.length - (intOf i).toNat)
  case atStart => exact ⟨0, 0, by omega, rfl, rfl, rfl, by omega, by simp [Hid], Below.refl _ _⟩
  case round =>
    obtain ⟨k, m, hk, rfl, rfl, hm, hmk, hok, hB⟩ := hrel
    by_cases hlt : k < l.length
    · obtain ⟨b, off, A1, c1, A2, c2, rfl, hb, g2w, g3w, g4w, h3, h4, h5, s1, s2⟩ := hs.val hlt
      have hst := hid (tot_step l k hlt)
      have hmem := hid (show l[k] ∈ l from List.getElem_mem hlt)
      have htk := hid (show l.take (k + 1) = l.take k ++ [l[k]] by rw [List.take_add_one, List.getElem?_eq_getElem hlt]; rfl)
      generalize l[k] = v at *
      obtain ⟨v1, v2, S, L, T⟩ := v
      simp only at g2w g3w g4w h3 h4 h5 s1 s2
      have g2 := (hB.cell (p := ⟨b, off + k * 5 + 2, none⟩) hb).trans g2w
      have g3 := (hB.cell (p := ⟨b, off + k * 5 + 3, none⟩) hb).trans g3w
      have g4 := (hB.cell (p := ⟨b, off + k * 5 + 4, none⟩) hb).trans g4w
      unfold maxLen at h3 h4 h5
      by_cases c1' : (L.length : Int) ≤ 400
      case neg =>
        have hr := hid (fewB_no (l := l) (fun h => by have := (h.o _ hmem.out).l; simp at this; omega))
        go_wp2_with fail
        go_ret
        exact ⟨ret_bool hr.out.symm, by (repeat (first | exact Below.refl _ _ | assumption | refine below_drewN ?_ _ | refine Below.drew ?_ | refine Below.alloc ?_ (by (try simp); (try omega)) _ | refine Below.setCell ?_ (by (try simp); (try omega)) _))⟩
      by_cases c2' : (T.length : Int) ≤ 400
      case neg =>
        have hr := hid (fewB_no (l := l) (fun h => by have := (h.o _ hmem.out).t; simp at this; omega))
        go_wp2_with fail
        go_ret
        exact ⟨ret_bool hr.out.symm, by (repeat (first | exact Below.refl _ _ | assumption | refine below_drewN ?_ _ | refine Below.drew ?_ | refine Below.alloc ?_ (by (try simp); (try omega)) _ | refine Below.setCell ?_ (by (try simp); (try omega)) _))⟩
      by_cases c3' : (S.size : Int) ≤ 400
      case neg =>
        have hr := hid (fewB_no (l := l) (fun h => by have := (h.o _ hmem.out).s; simp at this; omega))
        go_wp2_with fail
        go_ret
        exact ⟨ret_bool hr.out.symm, by (repeat (first | exact Below.refl _ _ | assumption | refine below_drewN ?_ _ | refine Below.drew ?_ | refine Below.alloc ?_ (by (try simp); (try omega)) _ | refine Below.setCell ?_ (by (try simp); (try omega)) _))⟩
      have hadd0 : (m : Int) + S.size ≤ 9000000 := by omega
      go_upto_region 9 with fail
      go_quiet (fail)
      rename_i nq
      go_wp2_with fail
      clear g2 g3 g4
      go_loopw [3, 5] (fun n j wx => ∃ i : Nat, i ≤ T.length ∧ j = .int .i64 i ∧ n = .int .i64 (m + S.size + L.length + T.length + (sumS (T.take i) : Nat)) ∧ Hid (∀ x ∈ T.take i, x.size ≤ 400) ∧ Below w.heap.size w wx) (fun _ j _ => T.length - (intOf j).toNat)
      case atStart => exact ⟨0, by omega, rfl, by simp [sumS], by simp [Hid], by (repeat (first | exact Below.refl _ _ | assumption | refine below_drewN ?_ _ | refine Below.drew ?_ | refine Below.alloc ?_ (by (try simp); (try omega)) _ | refine Below.setCell ?_ (by (try simp); (try omega)) _))⟩
      case round =>
        clear hB
        obtain ⟨i, hi, rfl, rfl, hsm, hB⟩ := hrel
        have g4 := (hB.cell (p := ⟨b, off + k * 5 + 4, none⟩) hb).trans g4w
        have hsle := sumS_le i hsm.out
        by_cases hit : i < T.length
        · obtain ⟨b2, off2, rfl, _, g5⟩ := (s2.below hB).str hit
          have hss := hid (sumS_step T i hit)
          have hxm := hid (show T[i] ∈ T from List.getElem_mem hit)
          have htk2 := hid (show T.take (i + 1) = T.take i ++ [T[i]] by rw [List.take_add_one, List.getElem?_eq_getElem hit]; rfl)
          generalize T[i] = x at *
          by_cases hx4 : (x.size : Int) ≤ 400
          case neg =>
            have hr := hid (fewB_no (l := l) (fun h => by have := (h.o _ hmem.out).e _ hxm.out; omega))
            go_wp2_with fail
            go_ret
            exact ⟨ret_bool hr.out.symm, by (repeat (first | exact Below.refl _ _ | assumption | refine below_drewN ?_ _ | refine Below.drew ?_ | refine Below.alloc ?_ (by (try simp); (try omega)) _ | refine Below.setCell ?_ (by (try simp); (try omega)) _))⟩
          generalize hsu : sumS (T.take i) = su at *
          have Hsu := hid hsu
          clear hsu
          go_wp2_with fail
          go_roundw
          case rel =>
            refine ⟨i + 1, by omega, by go_num, ?_, ?_, by (repeat (first | exact Below.refl _ _ | assumption | refine below_drewN ?_ _ | refine Below.drew ?_ | refine Below.alloc ?_ (by (try simp); (try omega)) _ | refine Below.setCell ?_ (by (try simp); (try omega)) _))⟩
            · rw [hss.out]
              congr 1
              push_cast
              omega
            · intro y hy
              rw [htk2.out] at hy
              rcases List.mem_append.1 hy with h | h
              · exact hsm.out y h
              · rw [List.mem_singleton.1 h]; omega
          case measure => simp [intOf]; omega
        · have hii : i = T.length := by omega
          subst hii
          rw [List.take_length] at hsm
          have hok1 : Hid (Ok (v1, v2, S, L, T)) := ⟨by simp; omega, by simp; omega, by simp; omega, hsm.out⟩
          have htl := hid (tot_le hok1.out)
          go_wp2_with fail
          go_roundw
          case rel =>
            refine ⟨k + 1, m + tot (v1, v2, S, L, T), by omega, by go_num, ?_, ?_, by have := htl.out; omega, ?_, by (repeat (first | exact Below.refl _ _ | assumption | refine below_drewN ?_ _ | refine Below.drew ?_ | refine Below.alloc ?_ (by (try simp); (try omega)) _ | refine Below.setCell ?_ (by (try simp); (try omega)) _))⟩
            · unfold tot
              simp only [List.take_length]
              congr 1
              push_cast
              omega
            · rw [Hid, hst.out, ← hm.out]
            · intro y hy
              rw [htk.out] at hy
              rcases List.mem_append.1 hy with h | h
              · exact hok.out y h
              · rw [List.mem_singleton.1 h]; exact hok1.out
          case measure => simp [intOf]; omega
    · have hkk : k = l.length := by omega
      subst hkk
      rw [List.take_length] at hm hok
      by_cases ht : (m : Int) ≤ 400
      · have hr := hid (fewB_yes (l := l) ⟨by omega, hok.out, by rw [← hm.out]; omega⟩)
        go_wp2_with fail
        go_ret
        exact ⟨ret_bool (by rw [hr.out]), by (repeat (first | exact Below.refl _ _ | assumption | refine below_drewN ?_ _ | refine Below.drew ?_ | refine Below.alloc ?_ (by (try simp); (try omega)) _ | refine Below.setCell ?_ (by (try simp); (try omega)) _))⟩
      · have hr := hid (fewB_no (l := l) (fun h => by have := h.t; rw [← hm.out] at this; omega))
        go_wp2_with fail
        go_ret
        exact ⟨ret_bool (by rw [hr.out]), by (repeat (first | exact Below.refl _ _ | assumption | refine below_drewN ?_ _ | refine Below.drew ?_ | refine Below.alloc ?_ (by (try simp); (try omega)) _ | refine Below.setCell ?_ (by (try simp); (try omega)) _))⟩
end Go.Proofs.YtjdblegmpmampaaDoor
