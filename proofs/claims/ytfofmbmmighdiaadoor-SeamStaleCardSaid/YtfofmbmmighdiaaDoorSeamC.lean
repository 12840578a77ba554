
/- Seam: Again, Offer, Hear. -/
import Derived.Test.YtfofmbmmighdiaaDoorSeamB
set_option linter.unusedSimpArgs false
set_option linter.unusedVariables false
namespace Go.Proofs.YtfofmbmmighdiaaDoor
open Go.RowKit Go.IntWalk

abbrev Pas := Int × Int × Int
abbrev pAgg (p : Pas) : Value := .agg #[.int .i64 p.1, .int .i64 p.2.1, .int .i64 p.2.2]
def againL (rs : List Rob) (i : Int) : Pas × Int :=
  if i < 0 ∨ (rs.length : Int) ≤ i then ((0, 0, 0), 4) else if (getR rs i).1 ≠ 2 then ((0, 0, 0), 7) else ((0, i, (getR rs i).2.1), 0)
def AgRes (w : World) (r : Pas × Int) (e : Ending) (w' : World) : Prop := e = .returned (.tuple #[.agg #[.int .i64 r.1.1, .int .i64 r.1.2.1, .int .i64 r.1.2.2], .int .i64 r.2]) ∧ Below w.heap.size w w'
set_option maxRecDepth 100000 in
set_option maxHeartbeats 1000000 in
theorem again_any {w : World} {base b : Nat} {v : Value} {me : Int} {rs : List Rob} (h : Dk w base b v me rs) (i : Int) : Calls Tryd.prog 19 #[.pointer (some ⟨b, 0, none⟩), .int .i64 i] w (AgRes w (againL rs i)) := by
  have hB := hid (show Below w.heap.size w (w.alloc (Obj.cells #[.int .i64 0, .int .i64 0, .int .i64 0] 27)) by (repeat (first | exact Below.refl _ _ | assumption | refine below_drewN ?_ _ | refine Below.drew ?_ | refine Below.alloc ?_ (by (try simp); (try omega)) _ | refine Below.setCell ?_ (by (try simp); (try omega)) _)))
  have h1 := h.below hB.out
  by_cases hi : i < 0 ∨ (rs.length : Int) ≤ i
  · have hr := hid (show againL rs i = ((0, 0, 0), 4) by simp [againL, hi])
    go_enter Tryd.func19, Tryd.ntmps19
    go_wp2_with fail
    refine (find_no h1 i hi).mono ?_
    clear hi
    rintro e w' ⟨rfl, rfl⟩
    go_wp2_with fail
    refine bodyPost_ret (v := .tuple #[.agg #[.int .i64 0, .int .i64 0, .int .i64 0], .int .i64 4]) (by simp [results, Tryd.results19, go_sem]) rfl ?_
    rw [hr.out]
    exact ⟨rfl, hB.out⟩
  · obtain ⟨k, rfl⟩ : ∃ k : Nat, i = k := ⟨i.toNat, by omega⟩
    have hk : k < rs.length := by omega
    obtain ⟨A, c, rfl, _, _, hg⟩ := h1.row
    obtain ⟨g, rfl, _, hgz, _⟩ := hg (by intro hh; simp [hh] at hk)
    have hgz2 := (h.gne (by omega)).2.2
    obtain ⟨x0, x1, x2, fz⟩ := h.at_ hk
    clear fz
    have hgr := getR_yes hk
    generalize rs[k] = r at *
    obtain ⟨p, n, f⟩ := r
    simp only at x0 x1 x2
    by_cases hp : p = 2
    · subst hp
      have hr := hid (show againL rs k = ((0, (k : Int), n), 0) by rw [againL, if_neg hi, hgr]; simp)
      clear hgr hi
      go_enter Tryd.func19, Tryd.ntmps19
      go_wp2_with fail
      refine (find_yes h1 k hk).mono ?_
      rintro e w' ⟨rfl, rfl⟩
      go_wp2_with fail
      refine bodyPost_ret (v := .tuple #[.agg #[.int .i64 0, .int .i64 k, .int .i64 n], .int .i64 0]) (by simp [results, Tryd.results19, go_sem]) rfl ?_
      rw [hr.out]
      exact ⟨rfl, by (repeat (first | exact Below.refl _ _ | assumption | refine below_drewN ?_ _ | refine Below.drew ?_ | refine Below.alloc ?_ (by (try simp); (try omega)) _ | refine Below.setCell ?_ (by (try simp); (try omega)) _))⟩
    · have hr := hid (show againL rs k = ((0, 0, 0), 7) by rw [againL, if_neg hi, hgr]; simp [hp])
      have hp1 : (p == 2) = false := by simpa using hp
      clear hgr hi hp
      go_enter Tryd.func19, Tryd.ntmps19
      go_wp2_with fail
      refine (find_yes h1 k hk).mono ?_
      rintro e w' ⟨rfl, rfl⟩
      go_wp2_with fail
      refine bodyPost_ret (v := .tuple #[.agg #[.int .i64 0, .int .i64 0, .int .i64 0], .int .i64 7]) (by simp [results, Tryd.results19, go_sem]) rfl ?_
      rw [hr.out]
      exact ⟨rfl, by (repeat (first | exact Below.refl _ _ | assumption | refine below_drewN ?_ _ | refine Below.drew ?_ | refine Below.alloc ?_ (by (try simp); (try omega)) _ | refine Below.setCell ?_ (by (try simp); (try omega)) _))⟩

theorem grown_s (w : World) (b i : Nat) (u : Value) : w.grownBy (w.setCell ⟨b, i, none⟩ u) (some b) :=
  ⟨rfl, rfl, rfl, by simp, fun k _ hne => Below.heap_setCell w ⟨b, i, none⟩ u k (fun e => hne (by rw [e]))⟩
theorem grown_fr {w w1 w2 : World} {r row : Option Nat} (h : w.grownBy w1 r) (h2 : w1.grownBy w2 row) (hr : ∀ k, row = some k → w.heap.size ≤ k) : w.grownBy w2 r :=
  ⟨h2.os.trans h.os, h2.tape.trans h.tape, h2.output.trans h.output, Nat.le_trans h.size h2.size, fun k hk hne => (h2.block k (Nat.lt_of_lt_of_le hk h.size) (fun e => by have := hr k e.symm; omega)).trans (h.block k hk hne)⟩
theorem rc_set12 (l : List Rob) (i : Nat) (p n : Int) (h : i < l.length) : rc (l.set i (p, n, l[i].2.2)) = ((rc l).set (i * 3) (.int .i64 p)).set (i * 3 + 1) (.int .i64 n) := by
  have h1 := rc_set1 l i p h
  have h2 := rc_set2 (l.set i (p, l[i].2.1, l[i].2.2)) i n (by simpa using h)
  simp only [List.getElem_set_self, List.set_set] at h2
  rw [h2, h1]
theorem Dk.set12 {w : World} {base b g c : Nat} {me : Int} {rs : List Rob} (h : Dk w base b (.slice (some ⟨g, 0, none⟩) rs.length c) me rs) {i : Nat} (hi : i < rs.length) (p n : Int) :
    Dk ((w.setCell ⟨g, i * 3, none⟩ (.int .i64 p)).setCell ⟨g, i * 3 + 1, none⟩ (.int .i64 n)) base b (.slice (some ⟨g, 0, none⟩) rs.length c) me (rs.set i (p, n, rs[i].2.2)) ∧
    w.grownBy ((w.setCell ⟨g, i * 3, none⟩ (.int .i64 p)).setCell ⟨g, i * 3 + 1, none⟩ (.int .i64 n)) (some g) := by
  have h1 := h.r.stored (i * 3) (.int .i64 p)
  have h2 := h1.1.stored (i * 3 + 1) (.int .i64 n)
  have hne := (h.gne (by omega)).1
  refine ⟨⟨(h.d.far (by simpa using hne.symm) _).far (by simpa using hne.symm) _, ?_⟩, grown_tr h1.2 h2.2⟩
  rw [rc_set12 rs i p n hi, List.length_set]
  exact h2.1
/-- A desk's robots, one of them anew. -/
def setR (rs : List Rob) (i : Int) (r : Rob) : List Rob := if 0 ≤ i then rs.set i.toNat r else rs
theorem setR_len (rs : List Rob) (i : Int) (r : Rob) : (setR rs i r).length = rs.length := by unfold setR; split <;> simp
theorem setR_nat (rs : List Rob) (i : Nat) (r : Rob) : setR rs i r = rs.set i r := by simp [setR]
def offerL (rs : List Rob) (i : Int) : List Rob × Pas × Int :=
  if i < 0 ∨ (rs.length : Int) ≤ i then (rs, (0, 0, 0), 4) else if (getR rs i).1 ≠ 1 then (rs, (0, 0, 0), 7) else (setR rs i (2, (getR rs i).2.1 + 1, (getR rs i).2.2), (0, i, (getR rs i).2.1 + 1), 0)
/-- What a desk's call leaves. -/
def OfferRes (w : World) (base b : Nat) (v : Value) (me : Int) (r : List Rob × Pas × Int) (e : Ending) (w' : World) : Prop :=
  e = .returned (.tuple #[.agg #[.int .i64 r.2.1.1, .int .i64 r.2.1.2.1, .int .i64 r.2.1.2.2], .int .i64 r.2.2]) ∧ Dk w' base b v me r.1 ∧ w.grownBy w' v.ownBlock
set_option maxRecDepth 100000 in
set_option maxHeartbeats 1000000 in
theorem offer_any {w : World} {base b : Nat} {v : Value} {me : Int} {rs : List Rob} (h : Dk w base b v me rs) (i : Int) (hno : ∀ r ∈ rs, -4611686018427387904 ≤ r.2.1 ∧ r.2.1 ≤ 4611686018427387904) :
    Calls Tryd.prog 17 #[.pointer (some ⟨b, 0, none⟩), .int .i64 i] w (OfferRes w base b v me (offerL rs i)) := by
  have hB := hid (show Below w.heap.size w (w.alloc (Obj.cells #[.int .i64 0, .int .i64 0, .int .i64 0] 27)) by (repeat (first | exact Below.refl _ _ | assumption | refine below_drewN ?_ _ | refine Below.drew ?_ | refine Below.alloc ?_ (by (try simp); (try omega)) _ | refine Below.setCell ?_ (by (try simp); (try omega)) _)))
  have bz := hid (Blk.new w 27 #[.int .i64 0, .int .i64 0, .int .i64 0])
  have h1 := h.below hB.out
  have hlen := h.d.lt
  by_cases hi : i < 0 ∨ (rs.length : Int) ≤ i
  · have hr := hid (show offerL rs i = (rs, (0, 0, 0), 4) by simp [offerL, hi])
    go_enter Tryd.func17, Tryd.ntmps17
    go_wp2_with fail
    refine (find_no h1 i hi).mono ?_
    clear hi
    rintro e w' ⟨rfl, rfl⟩
    go_wp2_with fail
    refine bodyPost_ret (v := .tuple #[.agg #[.int .i64 0, .int .i64 0, .int .i64 0], .int .i64 4]) (by simp [results, Tryd.results17, go_sem]) rfl ?_
    rw [hr.out]
    exact ⟨rfl, h1, grown_b0 hB.out⟩
  · obtain ⟨k, rfl⟩ : ∃ k : Nat, i = k := ⟨i.toNat, by omega⟩
    have hk : k < rs.length := by omega
    obtain ⟨A, c, rfl, _, _, hg⟩ := h1.row
    obtain ⟨g, rfl, _, _, _⟩ := hg (by intro hh; simp [hh] at hk)
    clear hg
    have hgz2 := (h.gne (by omega)).2.2
    have hgne := hid (h.gne (by omega)).1
    obtain ⟨x0, x1, x2, fz⟩ := h.at_ hk
    have f0 := fz (k * 3); have f1 := fz (k * 3 + 1)
    clear fz
    have hgr := getR_yes hk
    have hnr := hno _ (List.getElem_mem hk)
    obtain ⟨r, hrr⟩ : ∃ r, r = rs[k] := ⟨_, rfl⟩
    have Hrr := hid hrr
    rw [← hrr] at x0 x1 x2 hgr hnr
    clear hrr
    obtain ⟨p, n, f⟩ := r
    simp only at x0 x1 x2 hnr
    by_cases hp : p = 1
    · subst hp
      have hr := hid (show offerL rs k = (rs.set k (2, n + 1, f), (0, (k : Int), n + 1), 0) by rw [offerL, if_neg hi, hgr]; simp [setR_nat])
      clear hgr hi
      -- the desk behind both stores
      have H2 := hid (h.set12 hk 2 (n + 1))
      have hAg := hid (show againL (rs.set k (2, n + 1, f)) k = ((0, (k : Int), n + 1), 0) by
        rw [againL, if_neg (by simp; omega), getR_yes (by simpa using hk)]; simp)
      go_enter Tryd.func17, Tryd.ntmps17
      go_wp2_with fail
      refine (find_yes h1 k hk).mono ?_
      rintro e w' ⟨rfl, rfl⟩
      have H3 := H2.out
      rw [← Hrr.out] at H3
      simp only at H3
      have gg := hid (grown_tr H3.2 (grown_b0 ((Below.refl _ _).alloc (Nat.le_refl _) (Obj.cells #[.int .i64 0, .int .i64 0, .int .i64 0] 27))))
      have H4 := hid (H3.1.below ((Below.refl _ _).alloc (Nat.le_refl _) (Obj.cells #[.int .i64 0, .int .i64 0, .int .i64 0] 27)))
      clear H3 H2
      go_wp2_with fail
      rw [show rs.length = (rs.set k (2, n + 1, f)).length by simp] at H4
      refine (again_any H4.out k).mono ?_
      rw [hAg.out]
      rintro e w3 ⟨rfl, hB3⟩
      have H5 := hid (H4.out.below hB3)
      have g5 := hid (grown_tr gg.out (grown_b0 hB3))
      have bz3 : Blk (((w.setCell ⟨g, k * 3, none⟩ (.int .i64 2)).setCell ⟨g, k * 3 + 1, none⟩ (.int .i64 (n + 1))).alloc (Obj.cells #[.int .i64 0, .int .i64 0, .int .i64 0] 27)) w.heap.size 27 #[.int .i64 0, .int .i64 0, .int .i64 0] := Blk.new_at (by simp)
      have bz4 := bz3.below hB3 bz3.lt
      have r0 := bz4.cell 0; have r1 := bz4.cell 1; have r2 := bz4.cell 2
      have q0 := bz4.frozen 0; have q1 := bz4.frozen 1; have q2 := bz4.frozen 2
      have lz := bz4.lt
      simp at r0 r1 r2
      clear bz3 bz4 H4 hB3 gg
      go_wp2_with fail
      refine bodyPost_ret (v := .tuple #[.agg #[.int .i64 0, .int .i64 k, .int .i64 (n + 1)], .int .i64 0]) (by simp [results, Tryd.results17, go_sem, r0, r1, r2, q0, q1, q2, lz]) rfl ?_
      rw [hr.out]
      have gs := grown_tr (grown_tr (grown_s w3 w.heap.size 0 (.int .i64 0)) (grown_s _ w.heap.size 1 (.int .i64 k))) (grown_s _ w.heap.size 2 (.int .i64 (n + 1)))
      have H6 := H5.out
      rw [show (rs.set k (2, n + 1, f)).length = rs.length by simp] at H6
      refine ⟨rfl, H6.grown gs (.inr ?_) ?_, grown_fr g5.out gs (fun j e => by injection e with e; omega)⟩
      · simp [Value.ownBlock]; omega
      · intro e; injection e with e; omega
    · have hr := hid (show offerL rs k = (rs, (0, 0, 0), 7) by rw [offerL, if_neg hi, hgr]; simp [hp])
      have hp1 : (p == 1) = false := by simpa using hp
      clear hgr hi hp
      go_enter Tryd.func17, Tryd.ntmps17
      go_wp2_with fail
      refine (find_yes h1 k hk).mono ?_
      rintro e w' ⟨rfl, rfl⟩
      go_wp2_with fail
      refine bodyPost_ret (v := .tuple #[.agg #[.int .i64 0, .int .i64 0, .int .i64 0], .int .i64 7]) (by simp [results, Tryd.results17, go_sem]) rfl ?_
      rw [hr.out]
      exact ⟨rfl, h1, grown_b0 hB.out⟩
end Go.Proofs.YtfofmbmmighdiaaDoor
