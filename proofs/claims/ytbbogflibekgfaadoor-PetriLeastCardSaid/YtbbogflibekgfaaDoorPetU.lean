
/- Petri: the laws' fits, pick, within. -/
import Derived.Test.YtbbogflibekgfaaDoorPetT
set_option linter.unusedSimpArgs false
set_option linter.unusedVariables false
namespace Go.Proofs.YtbbogflibekgfaaDoor
open Go.RowKit Go.IntWalk Go.Shelf

def fitsN (n : Int) (T : List Tr) (m : List Int) (p q : Int) : Bool := fewN n T p q && netOK (n, T) && decide (m.length ≤ 64) && markOK (n, T) m
set_option maxRecDepth 100000 in
set_option maxHeartbeats 2000000 in
theorem fits_any (n : Int) (A : Option Addr) (c : Nat) (T : List Tr) (B : Option Addr) (d : Nat) (m : List Int) (p q : Int) (w : World) (hl : T.length ≤ maxLen) (h : SlR w w.heap.size A T) (hm : m.length ≤ maxLen) (hM : SlR w w.heap.size B m) :
    Calls Tryd.prog 9 #[.agg #[.int .i64 n, .slice A T.length c], .slice B m.length d, .int .i64 p, .int .i64 q] w fun e w' => e = .returned (.bool (fitsN n T m p q)) ∧ Below w.heap.size w w' := by
  obtain ⟨w1, hw1⟩ : ∃ w1, w1 = (w.alloc (Obj.cells #[.int .i64 n, .slice A T.length c] 24)) := ⟨_, rfl⟩
  have B1 : Below w.heap.size w w1 := by rw [hw1]; (repeat (first | exact Below.refl _ _ | assumption | refine below_drewN ?_ _ | refine Below.drew ?_ | refine Below.alloc ?_ (by (try simp); (try omega)) _ | refine Below.setCell ?_ (by (try simp); (try omega)) _))
  have x1 : Blk w1 w.heap.size 24 #[.int .i64 n, .slice A T.length c] := by rw [hw1]; exact Blk.new w _ _
  have HB1 := hid B1
  have HX := hid (fun (W : World) (hW : Below w1.heap.size w1 W) => show W.cell? ⟨w.heap.size, 0, none⟩ = some (.int .i64 n) ∧ W.cell? ⟨w.heap.size, 1, none⟩ = some (.slice A T.length c) ∧ w.heap.size < W.heap.size from
    ⟨(bcell hW _ _ x1.lt).trans (by rw [x1.cell]; rfl), (bcell hW _ _ x1.lt).trans (by rw [x1.cell]; rfl), Nat.lt_of_lt_of_le x1.lt hW.size⟩)
  have HF := hid (fun W (hW : Below w1.heap.size w1 W) => few_any n A c T p q W hl ((h.below (B1.trans (hW.mono B1.size))).more (B1.trans (hW.mono B1.size)).size))
  have HR := hid (fun W (hW : Below w1.heap.size w1 W) => right_any n A c T W hl ((h.below (B1.trans (hW.mono B1.size))).more (B1.trans (hW.mono B1.size)).size))
  have HM := hid (fun W (hW : Below w1.heap.size w1 W) => mark_any n A c T B d m W hm ((hM.below (B1.trans (hW.mono B1.size))).more (B1.trans (hW.mono B1.size)).size))
  have HN := hid (show fitsN n T m p q = (fewN n T p q && netOK (n, T) && decide (m.length ≤ 64) && markOK (n, T) m) from rfl)
  unfold maxLen at hm
  clear h hM B1 x1
  generalize fewN n T p q = f1 at *
  generalize netOK (n, T) = f2 at *
  generalize markOK (n, T) m = f3 at *
  generalize fitsN n T m p q = R at *
  go_enter Tryd.func9, Tryd.ntmps9
  go_upto_region 1 with fail
  rw [← hw1]
  clear hw1
  obtain ⟨y0, y1, yz⟩ := HX.out w1 (Below.refl _ _)
  cases f1 with
  | false =>
    go_wp2_with (go_at_call 23; refine (HF.out _ (Below.refl _ _)).mono ?_; rintro e w2 ⟨rfl, hB⟩)
    have HB := hid hB
    clear hB
    go_ret
    exact ⟨ret_bool (by rw [HN.out]; simp), HB1.out.trans (HB.out.mono HB1.out.size)⟩
  | true =>
    go_wp2_with fail
    refine (HF.out _ (Below.refl _ _)).mono ?_
    rintro e w2 ⟨rfl, hB2⟩
    have HB2 := hid hB2
    clear hB2 y0 y1 yz
    obtain ⟨y0, y1, yz⟩ := HX.out w2 HB2.out
    have HR2 := hid (HR.out w2 HB2.out)
    cases f2 with
    | false =>
      go_wp2_with fail
      refine HR2.out.mono ?_
      rintro e w3 ⟨rfl, hB⟩
      have HB3 := hid (HB2.out.trans (hB.mono HB2.out.size))
      clear hB
      go_wp2_with fail
      go_ret
      exact ⟨ret_bool (by rw [HN.out]; simp), HB1.out.trans (HB3.out.mono HB1.out.size)⟩
    | true =>
      go_wp2_with fail
      refine HR2.out.mono ?_
      rintro e w3 ⟨rfl, hB⟩
      have HB3 := hid (HB2.out.trans (hB.mono HB2.out.size))
      clear hB y0 y1 yz HR2
      obtain ⟨y0, y1, yz⟩ := HX.out w3 HB3.out
      by_cases h64 : m.length ≤ 64
      · have h64i : (m.length : Int) ≤ 64 := by omega
        have HM3 := hid (HM.out w3 HB3.out)
        go_wp2_with fail
        refine HM3.out.mono ?_
        rintro e w4 ⟨rfl, hB⟩
        have HB4 := hid (HB3.out.trans (hB.mono HB3.out.size))
        clear hB
        go_wp2_with fail
        go_ret
        exact ⟨ret_bool (by rw [HN.out]; simp [h64]), HB1.out.trans (HB4.out.mono HB1.out.size)⟩
      · have h64i : ¬ (m.length : Int) ≤ 64 := by omega
        go_wp2_with fail
        go_ret
        exact ⟨ret_bool (by rw [HN.out]; simp [h64]), HB1.out.trans (HB3.out.mono HB1.out.size)⟩
end Go.Proofs.YtbbogflibekgfaaDoor
