
/- Seam: lists of calls; 'fine'. -/
import Derived.Test.YtfofmbmmighdiaaDoorSeamI
set_option linter.unusedSimpArgs false
set_option linter.unusedVariables false
namespace Go.Proofs.YtfofmbmmighdiaaDoor
open Go.RowKit Go.IntWalk

theorem op_rep {w : World} {B : Nat} {es : List Value} {o : Opp} (h : Rep.rep w B es o) : es = [.int .i64 o.1, .int .i64 o.2.1.1, .int .i64 o.2.1.2.1, .int .i64 o.2.1.2.2, .bool o.2.2] ∧ I64 o.1 ∧ I64 o.2.1.1 ∧ I64 o.2.1.2.1 ∧ I64 o.2.1.2.2 := by
  obtain ⟨e1, e2, rfl, _, _, ⟨rfl, h1⟩, e3, e4, rfl, _, _, ⟨e5, e6, rfl, _, _, ⟨rfl, h2⟩, e7, e8, rfl, _, _, ⟨rfl, h3⟩, rfl, h4⟩, rfl⟩ := h
  exact ⟨rfl, h1, h2, h3, h4⟩
theorem SlR.op {w : World} {B : Nat} {A : Option Addr} {l : List Opp} (h : SlR w B A l) {k : Nat} (hk : k < l.length) : ∃ b off, A = some ⟨b, off, none⟩ ∧ b < B ∧
    w.cell? ⟨b, off + k * 5, none⟩ = some (.int .i64 l[k].1) ∧ w.cell? ⟨b, off + k * 5 + 1, none⟩ = some (.int .i64 l[k].2.1.1) ∧ w.cell? ⟨b, off + k * 5 + 2, none⟩ = some (.int .i64 l[k].2.1.2.1) ∧
    w.cell? ⟨b, off + k * 5 + 3, none⟩ = some (.int .i64 l[k].2.1.2.2) ∧ w.cell? ⟨b, off + k * 5 + 4, none⟩ = some (.bool l[k].2.2) ∧ I64 l[k].2.1.1 ∧ I64 l[k].2.1.2.1 ∧ I64 l[k].2.1.2.2 := by
  obtain ⟨b, off, es, hA, hb, hs, hc, hr⟩ := h k _ (List.getElem?_eq_getElem hk)
  obtain ⟨rfl, h1, h2, h3, h4⟩ := op_rep hr
  have h5' : Rep.size Opp = 5 := rfl
  rw [h5'] at hc
  exact ⟨b, off, hA, hb, hc 0 _ rfl, hc 1 _ rfl, hc 2 _ rfl, hc 3 _ rfl, hc 4 _ rfl, h2, h3, h4⟩
def okO (o : Opp) : Bool := decide (-1099511627776 ≤ o.2.1.2.2 ∧ o.2.1.2.2 ≤ 1099511627776)
def fineL (l : List Opp) (n : Int) : Bool := l.all okO && decide ((l.length : Int) ≤ n)
theorem fineL_iff {l : List Opp} {n : Int} : fineL l n = true ↔ (∀ o ∈ l, -1099511627776 ≤ o.2.1.2.2 ∧ o.2.1.2.2 ≤ 1099511627776) ∧ (l.length : Int) ≤ n := by
  simp [fineL, okO, List.all_eq_true]
set_option maxRecDepth 100000 in
set_option maxHeartbeats 1000000 in
theorem fine_any (A : Option Addr) (c : Nat) (l : List Opp) (n : Int) (w : World) (hl : l.length ≤ maxLen) (hs : SlR w w.heap.size A l) :
    Calls Tryd.prog 8 #[.slice A l.length c, .int .i64 n] w fun e w' => e = .returned (.bool (fineL l n)) ∧ w = w' := by
  unfold maxLen at hl
  go_enter Tryd.func8, Tryd.ntmps8
  go_wp2_with fail
  go_loop [5] (fun i => ∃ k : Nat, k ≤ l.length ∧ i = .int .i64 k ∧ Hid ((l.take k).all okO = true)) (fun i => l.length - (intOf i).toNat)
  case atStart => exact ⟨0, by omega, rfl, by simp [Hid]⟩
  case round =>
    obtain ⟨k, hk, rfl, hall⟩ := hrel
    by_cases hlt : k < l.length
    · obtain ⟨b, off, rfl, _, _, _, _, g3, _, _, _, _⟩ := hs.op hlt
      have hst := hid (show okO l[k] = true → (l.take (k + 1)).all okO = true from fun h => by
        rw [List.take_add_one, List.getElem?_eq_getElem hlt, List.all_append, hall.out]; simp [h])
      have hno := hid (show okO l[k] = false → fineL l n = false from fun h => by
        unfold fineL
        rw [show l.all okO = false by rw [List.all_eq_false]; exact ⟨l[k], List.getElem_mem hlt, by simp [h]⟩]
        rfl)
      have hlt' : (k : Int) < l.length := by omega
      generalize l[k] = o at *
      by_cases h1 : 1099511627776 < o.2.1.2.2
      · have hr := hid (hno.out (by simp [okO]; omega))
        go_wp2_with fail
        go_ret
        exact ⟨ret_bool hr.out.symm, rfl⟩
      · by_cases h2 : o.2.1.2.2 < -1099511627776
        · have hr := hid (hno.out (by simp [okO]; omega))
          go_wp2_with fail
          go_ret
          exact ⟨ret_bool hr.out.symm, rfl⟩
        · have hr := hid (hst.out (by simp [okO]; omega))
          go_wp2_with fail
          go_round
          case rel => exact ⟨k + 1, by omega, by go_num, hr⟩
          case measure => simp [intOf]; omega
    · obtain rfl : k = l.length := by omega
      rw [List.take_length] at hall
      have hr := hid (show fineL l n = decide ((l.length : Int) ≤ n) by unfold fineL; rw [hall.out]; rfl)
      go_wp2_with fail
      go_ret
      exact ⟨ret_bool hr.out.symm, rfl⟩
end Go.Proofs.YtfofmbmmighdiaaDoor
