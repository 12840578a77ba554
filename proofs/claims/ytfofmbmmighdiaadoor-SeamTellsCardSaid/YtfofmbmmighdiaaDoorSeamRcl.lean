
/- Seam: the reference's Hear, a kind (printed by gen_seamrc.py). -/
import Derived.Test.YtfofmbmmighdiaaDoorSeamRc
set_option linter.unusedSimpArgs false
set_option linter.unusedVariables false
namespace Go.Proofs.YtfofmbmmighdiaaDoor
open Go.RowKit Go.IntWalk

set_option maxRecDepth 100000 in
set_option maxHeartbeats 8000000 in
theorem rhear_k1 {w : World} {base b g c : Nat} {me : Int} {rs : List Rob} (h : Dr w base b (.slice (some ⟨g, 0, none⟩) rs.length c) me rs) (k : Nat) (hk : k < rs.length) (no : Int) (take : Bool) :
    Calls Tryd.prog 23 #[.pointer (some ⟨b, 0, none⟩), .agg #[.int .i64 1, .int .i64 (k : Int), .int .i64 no], .bool take] w (RHearRes w base b (.slice (some ⟨g, 0, none⟩) rs.length c) me (hearR rs (1, (k : Int), no) take)) := by
  have hB0 := hid (show Below w.heap.size w (((w.alloc (Obj.cells #[.int .i64 1, .int .i64 k, .int .i64 no] 27)).alloc (Obj.cells #[.int .i64 0, .int .i64 0, .int .i64 0] 27)).alloc (Obj.cells #[.int .i64 0, .int .i64 0, .int .i64 0] 27)) by (repeat (first | exact Below.refl _ _ | assumption | refine below_drewN ?_ _ | refine Below.drew ?_ | refine Below.alloc ?_ (by (try simp); (try omega)) _ | refine Below.setCell ?_ (by (try simp); (try omega)) _)))
  have h1 := hid (h.below hB0.out)
  have his := hid (show isR rs k = true by simp [isR]; omega)
  have hS := hid (fun r => h.set3 hk r)
  obtain ⟨d0, d1⟩ := dr2 h
  have hzb := h.d.lt
  obtain ⟨hgb, _, hgz⟩ := h.gne (by omega)
  have hzb1 : b < w.heap.size + 1 := by omega
  have hzb2 : b < w.heap.size + 1 + 1 := by omega
  have hzb3 : b < w.heap.size + 1 + 1 + 1 := by omega
  have hgz1 : g < w.heap.size + 1 := by omega
  have hgz2 : g < w.heap.size + 1 + 1 := by omega
  have hgz3 : g < w.heap.size + 1 + 1 + 1 := by omega
  have hgz4 : g < w.heap.size + 1 + 1 + 1 + 1 := by omega
  have hgz5 : g < w.heap.size + 1 + 1 + 1 + 1 + 1 := by omega
  have hzb4 : b < w.heap.size + 1 + 1 + 1 + 1 := by omega
  have hzb5 : b < w.heap.size + 1 + 1 + 1 + 1 + 1 := by omega
  obtain ⟨x0, x1, x2, fz⟩ := h.at_ hk
  have f0 := fz (k * 3); have f1 := fz (k * 3 + 1); have f2 := fz (k * 3 + 2)
  clear fz
  have hkl : (k : Int) < rs.length := by omega
  have hse : rs.set k rs[k] = rs := List.set_getElem_self hk
  have hhr : Hid (hearR rs (1, (k : Int), no) take = (rs.set k (hearR1 rs[k] (1, (k : Int), no) take).1, (hearR1 rs[k] (1, (k : Int), no) take).2)) := hid (by
    rw [hearR]
    simp only
    rw [if_neg (by omega), getR_yes hk, setR_nat])
  generalize rs[k] = r at *
  obtain ⟨p, n, f⟩ := r
  have Hse := hid hse
  clear hse
  simp only at x0 x1 x2
  go_enter Tryd.func23, Tryd.ntmps23
  go_wp2_with fail
  refine (ris_any h1.out k).mono ?_
  rw [his.out]
  rintro e w' ⟨rfl, rfl⟩
  go_upto_region 4 with fail
  go_cut [10] (fun s wx => s = .pointer (some ⟨w.heap.size + 1 + 1 + 1, 0, none⟩) ∧ wx = ((((w.alloc (Obj.cells #[.int .i64 1, .int .i64 k, .int .i64 no] 27)).alloc (Obj.cells #[.int .i64 0, .int .i64 0, .int .i64 0] 27)).alloc (Obj.cells #[.int .i64 0, .int .i64 0, .int .i64 0] 27)).alloc (Obj.cells #[.int .i64 p, .int .i64 n, .bool f] 48)).drew)
  case first =>
    go_region_with (fail)
    all_goals
      go_wp2_with fail
      go_meet
      exact ⟨rfl, rfl⟩
  case rest =>
    obtain ⟨rfl, rfl⟩ := hcut
    clear hB0 h1 his
    by_cases hn : no = n
    · subst hn
      by_cases hp : p = 2
      · subst hp
        have hr := hid (show hearR rs (1, (k : Int), no) take = (rs.set k (0, no, false), (0, 0, 0), false, 0) by rw [hhr.out]; simp [hearR1])
        go_wp2_with fail
        go_region_with (fail)
        all_goals
          go_wp2_with fail
          refine bodyPost_ret (v := .tuple #[.agg #[.int .i64 0, .int .i64 0, .int .i64 0], .bool false, .int .i64 0]) (by simp [results, Tryd.results23, go_sem]) rfl ?_
          have hd := hS.out (0, no, false)
          simp only at hd
          obtain ⟨hd1, hd2⟩ := hd
          generalize (((w.setCell ⟨g, k * 3, none⟩ (.int .i64 0)).setCell ⟨g, k * 3 + 1, none⟩ (.int .i64 no)).setCell ⟨g, k * 3 + 2, none⟩ (.bool false)) = W3 at hd1 hd2 ⊢
          exact rhear_set hd1 hd2 (by (repeat (first | exact Below.refl _ _ | assumption | refine below_drewN ?_ _ | refine Below.drew ?_ | refine Below.alloc ?_ (by (try simp); (try omega)) _ | refine Below.setCell ?_ (by (try simp); (try omega)) _))) hr.out
      · have e2 : (p == (2:Int)) = false := by rw [beq_eq_false_iff_ne]; exact hp
        have hr := hid (show hearR rs (1, (k : Int), no) take = (rs, (0, 0, 0), false, 0) by rw [hhr.out]; simp [hearR1, Hse.out, hp])
        clear hp
        go_wp2_with fail
        refine bodyPost_ret (v := .tuple #[.agg #[.int .i64 0, .int .i64 0, .int .i64 0], .bool false, .int .i64 0]) (by simp [results, Tryd.results23, go_sem]) rfl ?_
        exact rhear_same h (by (repeat (first | exact Below.refl _ _ | assumption | refine below_drewN ?_ _ | refine Below.drew ?_ | refine Below.alloc ?_ (by (try simp); (try omega)) _ | refine Below.setCell ?_ (by (try simp); (try omega)) _))) hr.out
    · have en : (no != n) = true := by rw [bne_iff_ne]; exact hn
      have hr := hid (show hearR rs (1, (k : Int), no) take = (rs, (0, 0, 0), false, 0) by rw [hhr.out]; simp [hearR1, Hse.out, hn])
      clear hn
      go_wp2_with fail
      refine bodyPost_ret (v := .tuple #[.agg #[.int .i64 0, .int .i64 0, .int .i64 0], .bool false, .int .i64 0]) (by simp [results, Tryd.results23, go_sem]) rfl ?_
      exact rhear_same h (by (repeat (first | exact Below.refl _ _ | assumption | refine below_drewN ?_ _ | refine Below.drew ?_ | refine Below.alloc ?_ (by (try simp); (try omega)) _ | refine Below.setCell ?_ (by (try simp); (try omega)) _))) hr.out
end Go.Proofs.YtfofmbmmighdiaaDoor
