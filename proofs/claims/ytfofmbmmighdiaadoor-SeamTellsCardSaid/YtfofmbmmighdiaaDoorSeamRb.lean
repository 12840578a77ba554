
/- Seam: the reference's Again, Offer. -/
import Derived.Test.YtfofmbmmighdiaaDoorSeamRa
set_option linter.unusedSimpArgs false
set_option linter.unusedVariables false
namespace Go.Proofs.YtfofmbmmighdiaaDoor
open Go.RowKit Go.IntWalk

set_option maxRecDepth 100000 in
set_option maxHeartbeats 1000000 in
theorem ragain_any {w : World} {base b : Nat} {v : Value} {me : Int} {rs : List Rob} (h : Dr w base b v me rs) (i : Int) : Calls Tryd.prog 20 #[.pointer (some ⟨b, 0, none⟩), .int .i64 i] w (AgRes w (againL rs i)) := by
  have hB := hid (show Below w.heap.size w (w.alloc (Obj.cells #[.int .i64 0, .int .i64 0, .int .i64 0] 27)) by (repeat (first | exact Below.refl _ _ | assumption | refine below_drewN ?_ _ | refine Below.drew ?_ | refine Below.alloc ?_ (by (try simp); (try omega)) _ | refine Below.setCell ?_ (by (try simp); (try omega)) _)))
  have h1 := h.below hB.out
  by_cases hi : i < 0 ∨ (rs.length : Int) ≤ i
  · have hr := hid (show againL rs i = ((0, 0, 0), 4) by simp [againL, hi])
    have his := hid (show isR rs i = false by simp [isR]; omega)
    clear hi
    go_enter Tryd.func20, Tryd.ntmps20
    go_wp2_with fail
    refine (ris_any h1 i).mono ?_
    rw [his.out]
    rintro e w' ⟨rfl, rfl⟩
    go_wp2_with fail
    refine bodyPost_ret (v := .tuple #[.agg #[.int .i64 0, .int .i64 0, .int .i64 0], .int .i64 4]) (by simp [results, Tryd.results20, go_sem]) rfl ?_
    rw [hr.out]
    exact ⟨rfl, hB.out⟩
  · obtain ⟨k, rfl⟩ : ∃ k : Nat, i = k := ⟨i.toNat, by omega⟩
    have hk : k < rs.length := by omega
    have his := hid (show isR rs k = true by simp [isR]; omega)
    obtain ⟨A, c, rfl, _, _, hg⟩ := h.row
    obtain ⟨g, rfl, _, hgz, _⟩ := hg (by intro hh; simp [hh] at hk)
    obtain ⟨d0, d1⟩ := dr2 h
    have hzb := h.d.lt
    obtain ⟨x0, x1, x2, fz⟩ := h.at_ hk
    clear fz
    have hgr := getR_yes hk
    have hkl : (k : Int) < rs.length := by omega
    generalize rs[k] = r at *
    obtain ⟨p, n, f⟩ := r
    simp only at x0 x1 x2
    by_cases hp : p = 2
    · subst hp
      have hr := hid (show againL rs k = ((0, (k : Int), n), 0) by rw [againL, if_neg hi, hgr]; simp)
      clear hgr hi
      go_enter Tryd.func20, Tryd.ntmps20
      go_wp2_with fail
      refine (ris_any h1 k).mono ?_
      rw [his.out]
      rintro e w' ⟨rfl, rfl⟩
      go_wp2_with fail
      refine bodyPost_ret (v := .tuple #[.agg #[.int .i64 0, .int .i64 k, .int .i64 n], .int .i64 0]) (by simp [results, Tryd.results20, go_sem]) rfl ?_
      rw [hr.out]
      exact ⟨rfl, by (repeat (first | exact Below.refl _ _ | assumption | refine below_drewN ?_ _ | refine Below.drew ?_ | refine Below.alloc ?_ (by (try simp); (try omega)) _ | refine Below.setCell ?_ (by (try simp); (try omega)) _))⟩
    · have hr := hid (show againL rs k = ((0, 0, 0), 7) by rw [againL, if_neg hi, hgr]; simp [hp])
      have hp1 : (p != 2) = true := by simpa using hp
      clear hgr hi hp
      go_enter Tryd.func20, Tryd.ntmps20
      go_wp2_with fail
      refine (ris_any h1 k).mono ?_
      rw [his.out]
      rintro e w' ⟨rfl, rfl⟩
      go_wp2_with fail
      refine bodyPost_ret (v := .tuple #[.agg #[.int .i64 0, .int .i64 0, .int .i64 0], .int .i64 7]) (by simp [results, Tryd.results20, go_sem]) rfl ?_
      rw [hr.out]
      exact ⟨rfl, by (repeat (first | exact Below.refl _ _ | assumption | refine below_drewN ?_ _ | refine Below.drew ?_ | refine Below.alloc ?_ (by (try simp); (try omega)) _ | refine Below.setCell ?_ (by (try simp); (try omega)) _))⟩
def ROfferRes (w : World) (base b : Nat) (v : Value) (me : Int) (r : List Rob × Pas × Int) (e : Ending) (w' : World) : Prop :=
  e = .returned (.tuple #[.agg #[.int .i64 r.2.1.1, .int .i64 r.2.1.2.1, .int .i64 r.2.1.2.2], .int .i64 r.2.2]) ∧ Dr w' base b v me r.1 ∧ w.grownBy w' v.ownBlock
set_option maxRecDepth 100000 in
set_option maxHeartbeats 1000000 in
theorem roffer_any {w : World} {base b : Nat} {v : Value} {me : Int} {rs : List Rob} (h : Dr w base b v me rs) (i : Int) (hno : ∀ r ∈ rs, -4611686018427387904 ≤ r.2.1 ∧ r.2.1 ≤ 4611686018427387904) :
    Calls Tryd.prog 18 #[.pointer (some ⟨b, 0, none⟩), .int .i64 i] w (ROfferRes w base b v me (offerL rs i)) := by
  have hB := hid (show Below w.heap.size w (w.alloc (Obj.cells #[.int .i64 0, .int .i64 0, .int .i64 0] 27)) by (repeat (first | exact Below.refl _ _ | assumption | refine below_drewN ?_ _ | refine Below.drew ?_ | refine Below.alloc ?_ (by (try simp); (try omega)) _ | refine Below.setCell ?_ (by (try simp); (try omega)) _)))
  have h1 := h.below hB.out
  by_cases hi : i < 0 ∨ (rs.length : Int) ≤ i
  · have hr := hid (show offerL rs i = (rs, (0, 0, 0), 4) by simp [offerL, hi])
    have his := hid (show isR rs i = false by simp [isR]; omega)
    clear hi
    go_enter Tryd.func18, Tryd.ntmps18
    go_wp2_with fail
    refine (ris_any h1 i).mono ?_
    rw [his.out]
    rintro e w' ⟨rfl, rfl⟩
    go_wp2_with fail
    refine bodyPost_ret (v := .tuple #[.agg #[.int .i64 0, .int .i64 0, .int .i64 0], .int .i64 4]) (by simp [results, Tryd.results18, go_sem]) rfl ?_
    rw [hr.out]
    exact ⟨rfl, h1, grown_b0 hB.out⟩
  · obtain ⟨k, rfl⟩ : ∃ k : Nat, i = k := ⟨i.toNat, by omega⟩
    have hk : k < rs.length := by omega
    have his := hid (show isR rs k = true by simp [isR]; omega)
    obtain ⟨A, c, rfl, _, _, hg⟩ := h.row
    obtain ⟨g, rfl, _, hgz, hgb⟩ := hg (by intro hh; simp [hh] at hk)
    obtain ⟨d0, d1⟩ := dr2 h
    have hzb := h.d.lt
    obtain ⟨x0, x1, x2, fz⟩ := h.at_ hk
    have f0 := fz (k * 3); have f1 := fz (k * 3 + 1); have f2 := fz (k * 3 + 2)
    clear fz
    have hgr := getR_yes hk
    have hn := hno _ (List.getElem_mem hk)
    have hkl : (k : Int) < rs.length := by omega
    have hS := hid (h.set12 hk 2 (rs[k].2.1 + 1))
    have hsr := hid (show setR rs k (2, rs[k].2.1 + 1, rs[k].2.2) = rs.set k (2, rs[k].2.1 + 1, rs[k].2.2) from setR_nat _ _ _)
    generalize rs[k] = r at *
    obtain ⟨p, n, f⟩ := r
    simp only at x0 x1 x2 hn
    by_cases hp : p = 1
    · subst hp
      have hr := hid (show offerL rs k = (rs.set k (2, n + 1, f), (0, (k : Int), n + 1), 0) by rw [offerL, if_neg hi, hgr]; simp [setR_nat])
      clear hgr hi hno
      go_enter Tryd.func18, Tryd.ntmps18
      go_wp2_with fail
      refine (ris_any h1 k).mono ?_
      rw [his.out]
      rintro e w' ⟨rfl, rfl⟩
      go_wp2_with fail
      go_region_with (fail)
      all_goals
        go_wp2_with fail
        refine bodyPost_ret (v := .tuple #[.agg #[.int .i64 0, .int .i64 k, .int .i64 (n + 1)], .int .i64 0]) (by simp [results, Tryd.results18, go_sem]) rfl ?_
        rw [hr.out]
        exact ⟨rfl, (hS.out.1.alloc _).drew, grown_tr hS.out.2 (grown_b0 (by (repeat (first | exact Below.refl _ _ | assumption | refine below_drewN ?_ _ | refine Below.drew ?_ | refine Below.alloc ?_ (by (try simp); (try omega)) _ | refine Below.setCell ?_ (by (try simp); (try omega)) _))))⟩
    · have hr := hid (show offerL rs k = (rs, (0, 0, 0), 7) by rw [offerL, if_neg hi, hgr]; simp [hp])
      have hp1 : (p != 1) = true := by simpa using hp
      clear hgr hi hp hno
      go_enter Tryd.func18, Tryd.ntmps18
      go_wp2_with fail
      refine (ris_any h1 k).mono ?_
      rw [his.out]
      rintro e w' ⟨rfl, rfl⟩
      go_wp2_with fail
      refine bodyPost_ret (v := .tuple #[.agg #[.int .i64 0, .int .i64 0, .int .i64 0], .int .i64 7]) (by simp [results, Tryd.results18, go_sem]) rfl ?_
      rw [hr.out]
      exact ⟨rfl, h1, grown_b0 hB.out⟩
end Go.Proofs.YtfofmbmmighdiaaDoor
