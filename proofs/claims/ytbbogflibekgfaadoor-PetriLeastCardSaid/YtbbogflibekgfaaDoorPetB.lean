
/- Petri: Right, RightMarking, Enabled. -/
import Derived.Test.YtbbogflibekgfaaDoorPetA
import Derived.Shelf.Abstract
set_option linter.unusedSimpArgs false
set_option linter.unusedVariables false
namespace Go.Proofs.YtbbogflibekgfaaDoor
open Go.RowKit Go.IntWalk Go.Shelf

def badT (n : Int) (t : Tr) : Bool := !setB n t.1 || !setB n t.2
theorem netOK_eq (n : Int) (T : List Tr) : netOK (n, T) = (decide (0 ≤ n) && decide (n ≤ 64) && decide (T.length ≤ 5000) && !T.any (badT n)) := by
  unfold netOK
  congr 1
  rw [List.not_any_eq_all_not]
  congr 1
  funext t
  simp [badT]
set_option maxRecDepth 100000 in
set_option maxHeartbeats 1000000 in
theorem badT_any (n : Int) (gn : Nat) (A : Option Addr) (c m : Nat) (x : Tr) (A1 A2 : Option Addr) (c1 c2 : Nat) (w : World) (xn : Blk w gn 24 #[.int .i64 n, .slice A m c]) (h1 : SlR w w.heap.size A1 x.1) (h2 : SlR w w.heap.size A2 x.2) (l1 : x.1.length ≤ maxLen) (l2 : x.2.length ≤ maxLen) :
    Calls Tryd.prog 44 #[.agg #[.slice A1 x.1.length c1, .slice A2 x.2.length c2], .pointer (some ⟨gn, 0, none⟩)] w fun e w' => e = .returned (.bool (badT n x)) ∧ Below w.heap.size w w' := by
  have hB1 := hid (show Below w.heap.size w (w.alloc (Obj.cells #[.slice A1 x.1.length c1, .slice A2 x.2.length c2] 29)) by (repeat (first | exact Below.refl _ _ | assumption | refine below_drewN ?_ _ | refine Below.drew ?_ | refine Below.alloc ?_ (by (try simp); (try omega)) _ | refine Below.setCell ?_ (by (try simp); (try omega)) _)))
  have X1 := hid (Blk.new w 29 #[.slice A1 x.1.length c1, .slice A2 x.2.length c2])
  have HC1 := hid (isSet_any n A1 c1 x.1 _ l1 ((h1.below hB1.out).more hB1.out.size))
  have HC2 := hid (isSet_any n A2 c2 x.2 _ l2 ((h2.below hB1.out).more hB1.out.size))
  have y1 := (xn.below hB1.out xn.lt).cell 0; have z1 := xn.lt
  simp at y1
  have hbf := hid (show badT n x = (!setB n x.1 || !setB n x.2) from rfl)
  clear xn h1 h2
  obtain ⟨x1, x2⟩ := x
  simp only at *
  unfold maxLen at l1 l2
  go_enter Tryd.func44, Tryd.ntmps44
  go_upto_region 1 with fail
  generalize hw1 : w.alloc (Obj.cells #[.slice A1 x1.length c1, .slice A2 x2.length c2] 29) = w1 at *
  have hz9 : gn < w1.heap.size := by have := hB1.out.size; omega
  have hz8 : w.heap.size < w1.heap.size := by rw [← hw1]; simp
  clear hw1
  have y2 := X1.out.cell 0
  have y3 := X1.out.cell 1
  simp at y2 y3
  cases hq : setB n x1 with
  | false =>
    rw [hq] at HC1
    have HQ := hid hq
    clear hq
    go_wp2_with fail
    refine HC1.out.mono ?_
    rintro e w2 ⟨rfl, rfl⟩
    go_wp2_with fail
    go_ret
    exact ⟨ret_bool (by rw [hbf.out, HQ.out]; simp), hB1.out⟩
  | true =>
    rw [hq] at HC1
    have HQ := hid hq
    clear hq
    go_wp2_with fail
    refine HC1.out.mono ?_
    rintro e w2 ⟨rfl, rfl⟩
    go_wp2_with fail
    refine HC2.out.mono ?_
    rintro e w2 ⟨rfl, rfl⟩
    go_wp2_with fail
    go_ret
    exact ⟨ret_bool (by rw [hbf.out, HQ.out]; simp), hB1.out⟩
set_option maxRecDepth 100000 in
set_option maxHeartbeats 1000000 in
theorem right_any (n : Int) (A : Option Addr) (c : Nat) (T : List Tr) (w : World) (hl : T.length ≤ maxLen) (h : SlR w w.heap.size A T) :
    Calls Tryd.prog 24 #[.agg #[.int .i64 n, .slice A T.length c]] w fun e w' => e = .returned (.bool (netOK (n, T))) ∧ Below w.heap.size w w' := by
  have hB1 := hid (show Below w.heap.size w (w.alloc (Obj.cells #[.int .i64 n, .slice A T.length c] 24)) by (repeat (first | exact Below.refl _ _ | assumption | refine below_drewN ?_ _ | refine Below.drew ?_ | refine Below.alloc ?_ (by (try simp); (try omega)) _ | refine Below.setCell ?_ (by (try simp); (try omega)) _)))
  have X1 := hid (Blk.new w 24 #[.int .i64 n, .slice A T.length c])
  have HC := hid (ctt_any 44 #[.pointer (some ⟨w.heap.size, 0, none⟩)] (enters_of Tryd.func44 (by kernel_rfl) rfl) A c T (badT n) _ hl ((h.below hB1.out).more hB1.out.size) (fun x W A1 A2 c1 c2 _ hW s1 s2 l1 l2 =>
    (badT_any n _ A c T.length x A1 A2 c1 c2 W (X1.out.below hW X1.out.lt) s1 s2 l1 l2).mono (fun e w' ⟨he, hb⟩ => ⟨he, hW.trans (hb.mono hW.size)⟩)))
  have HN := hid (netOK_eq n T)
  clear h
  unfold maxLen at hl
  go_enter Tryd.func24, Tryd.ntmps24
  go_upto_region 1 with fail
  generalize hw1 : w.alloc (Obj.cells #[.int .i64 n, .slice A T.length c] 24) = w1 at *
  have hz8 : w.heap.size < w1.heap.size := by rw [← hw1]; simp
  clear hw1
  have y2 := X1.out.cell 0
  have y3 := X1.out.cell 1
  simp at y2 y3
  by_cases h0 : n < 0
  · go_wp2_with fail
    go_ret
    exact ⟨ret_bool (by rw [HN.out]; have : ¬ 0 ≤ n := (by omega); simp [this]), hB1.out⟩
  by_cases h64 : 64 < n
  · go_wp2_with fail
    go_ret
    exact ⟨ret_bool (by rw [HN.out]; have : ¬ n ≤ 64 := (by omega); simp [this]), hB1.out⟩
  by_cases h5 : 5000 < T.length
  · go_wp2_with fail
    go_ret
    exact ⟨ret_bool (by rw [HN.out]; have : ¬ T.length ≤ 5000 := (by omega); simp [this]), hB1.out⟩
  · go_wp2_with fail
    refine HC.out.mono ?_
    rintro e w2 ⟨rfl, hB2⟩
    have HB := hid (hB1.out.trans (hB2.mono hB1.out.size))
    clear hB2 HC
    go_wp2_with fail
    go_ret
    exact ⟨ret_bool (by rw [HN.out]; simp [show 0 ≤ n by omega, show n ≤ 64 by omega, show T.length ≤ 5000 by omega]), HB.out⟩

def badM (k : Int) : Bool := decide (k < 0) || decide (1099511627776 < k)
theorem markOK_eq (n : Net) (m : List Int) : markOK n m = (decide ((m.length : Int) = n.1) && !m.any badM) := by
  unfold markOK
  congr 1
  rw [List.not_any_eq_all_not]
  congr 1
  funext t
  rw [Bool.eq_iff_iff]
  simp [badM]
theorem badM_any (k : Int) (w : World) : Calls Tryd.prog 46 #[.int .i64 k] w fun e w' => e = .returned (.bool (badM k)) ∧ w = w' := by
  by_cases h0 : k < 0
  · go_enter Tryd.func46, Tryd.ntmps46
    go_wp2_with fail
    go_ret
    exact ⟨ret_bool (by simp [badM, h0]), rfl⟩
  · go_enter Tryd.func46, Tryd.ntmps46
    go_wp2_with fail
    go_ret
    exact ⟨ret_bool (by simp [badM]; omega), rfl⟩
set_option maxRecDepth 100000 in
set_option maxHeartbeats 1000000 in
theorem mark_any (n : Int) (A : Option Addr) (c : Nat) (T : List Tr) (B : Option Addr) (d : Nat) (m : List Int) (w : World) (hm : m.length ≤ maxLen) (h : SlR w w.heap.size B m) :
    Calls Tryd.prog 25 #[.agg #[.int .i64 n, .slice A T.length c], .slice B m.length d] w fun e w' => e = .returned (.bool (markOK (n, T) m)) ∧ Below w.heap.size w w' := by
  have hB1 := hid (show Below w.heap.size w (w.alloc (Obj.cells #[.int .i64 n, .slice A T.length c] 24)) by (repeat (first | exact Below.refl _ _ | assumption | refine below_drewN ?_ _ | refine Below.drew ?_ | refine Below.alloc ?_ (by (try simp); (try omega)) _ | refine Below.setCell ?_ (by (try simp); (try omega)) _)))
  have X1 := hid (Blk.new w 24 #[.int .i64 n, .slice A T.length c])
  have HC := hid (cti_any 46 #[] (enters_of Tryd.func46 (by kernel_rfl) rfl) B d m badM _ hm ((h.below hB1.out).more hB1.out.size) (fun x W _ hW =>
    (badM_any x W).mono (fun e w' ⟨he, hb⟩ => ⟨he, hb ▸ hW⟩)))
  have HN := hid (markOK_eq (n, T) m)
  clear h
  unfold maxLen at hm
  go_enter Tryd.func25, Tryd.ntmps25
  go_upto_region 1 with fail
  generalize hw1 : w.alloc (Obj.cells #[.int .i64 n, .slice A T.length c] 24) = w1 at *
  have hz8 : w.heap.size < w1.heap.size := by rw [← hw1]; simp
  clear hw1
  have y2 := X1.out.cell 0
  simp at y2
  by_cases h0 : (m.length : Int) = n
  · have HQ := hid h0
    go_wp2_with fail
    refine HC.out.mono ?_
    rintro e w2 ⟨rfl, hB2⟩
    have HB := hid (hB1.out.trans (hB2.mono hB1.out.size))
    clear hB2 HC
    go_wp2_with fail
    go_ret
    exact ⟨ret_bool (by rw [HN.out]; simp [HQ.out]), HB.out⟩
  · have HQ := hid h0
    go_wp2_with fail
    go_ret
    exact ⟨ret_bool (by rw [HN.out]; simp [HQ.out]), hB1.out⟩
end Go.Proofs.YtbbogflibekgfaaDoor
