
/- Petri: IsSiphon, IsTrap. -/
import Derived.Test.YtbbogflibekgfaaDoorPetG
set_option linter.unusedSimpArgs false
set_option linter.unusedVariables false
namespace Go.Proofs.YtbbogflibekgfaaDoor
open Go.RowKit Go.IntWalk Go.Shelf

/-- Is the list a siphon (a trap) of the net? -/
def isN (n : Int) (T : List Tr) (trap : Bool) (s : List Int) : Bool := setB n s && closedN (edgesN (n, T) trap) (wordN s)
theorem edgesN_len (n : Int) (T : List Tr) (trap : Bool) : (edgesN (n, T) trap).length = T.length := by unfold edgesN; rw [List.length_map]
set_option maxRecDepth 100000 in
set_option maxHeartbeats 2000000 in
theorem siphon_any (n : Int) (A : Option Addr) (c : Nat) (T : List Tr) (B : Option Addr) (d : Nat) (s : List Int) (w : World) (hl : T.length ≤ maxLen) (h : SlR w w.heap.size A T) (hs : s.length ≤ maxLen) (hS : SlR w w.heap.size B s) (hok : netOK (n, T) = true) :
    Calls Tryd.prog 12 #[.agg #[.int .i64 n, .slice A T.length c], .slice B s.length d] w fun e w' => e = .returned (.bool (isN n T false s)) ∧ Below w.heap.size w w' := by
  obtain ⟨w1, hw1⟩ : ∃ w1, w1 = (w.alloc (Obj.cells #[.int .i64 n, .slice A T.length c] 24)) := ⟨_, rfl⟩
  have B1 : Below w.heap.size w w1 := by rw [hw1]; (repeat (first | exact Below.refl _ _ | assumption | refine below_drewN ?_ _ | refine Below.drew ?_ | refine Below.alloc ?_ (by (try simp); (try omega)) _ | refine Below.setCell ?_ (by (try simp); (try omega)) _))
  have x1 : Blk w1 w.heap.size 24 #[.int .i64 n, .slice A T.length c] := by rw [hw1]; exact Blk.new w _ _
  have y0 := x1.cell 0; have y1 := x1.cell 1; have z1 := x1.lt
  simp at y0 y1
  have HB1 := hid B1
  have HI := hid (isSet_any n B d s w1 hs ((hS.below B1).more B1.size))
  have HE := hid (edges_any n A c T false w1 hl ((h.below B1).more B1.size) hok)
  have HW := hid (fun W (hW : Below w.heap.size w W) (hb : ∀ x ∈ s, 0 ≤ x ∧ x < 64) => word_any B d s W hs ((hS.below hW).more hW.size) hb)
  have HOK := hid (edges_ok hok false)
  have h64 : n ≤ 64 := by
    simp only [netOK, Bool.and_eq_true, decide_eq_true_eq] at hok
    exact hok.1.1.2
  have HN := hid (show isN n T false s = (setB n s && closedN (edgesN (n, T) false) (wordN s)) from rfl)
  have hle := edgesN_len n T false
  clear h hS x1 B1 hok
  go_enter Tryd.func12, Tryd.ntmps12
  go_upto_region 1 with fail
  rw [← hw1]
  clear hw1
  cases hq : setB n s with
  | false =>
    rw [hq] at HI
    have HQ := hid hq
    clear hq
    go_wp2_with (go_at_call 38; refine HI.out.mono ?_; rintro e w2 ⟨rfl, rfl⟩)
    go_ret
    exact ⟨ret_bool (by rw [HN.out, HQ.out]; rfl), HB1.out⟩
  | true =>
    rw [hq] at HI
    have HQ := hid hq
    have hr := hid (show ∀ x ∈ s, 0 ≤ x ∧ x < 64 from fun x hx => by have := setB_mem hq x hx; omega)
    have hv := hid (word64 h64 hq)
    clear hq
    generalize edgesN (n, T) false = L at *
    have HC := hid (fun W (B1 : Below w.heap.size w W) (A9 : Option Addr) (c9 : Nat) (h9 : SlR W W.heap.size A9 L) => closed_any A9 c9 L (wordN s) W (by rw [hle]; exact hl) h9 hv.out HOK.out)
    clear hle
    go_wp2_with (first | (go_at_call 38; refine HI.out.mono ?_; rintro e w2 ⟨rfl, rfl⟩) | (go_at_call 27; refine HE.out.mono ?_; rintro e w3 ⟨v3, rfl, ho3, hB3⟩; obtain ⟨A3, c3, rfl, _, _, hs3⟩ := ho3.slr HOK.out; have HB3 := hid (HB1.out.trans (hB3.mono HB1.out.size)); have HS3 := hid hs3; clear ho3 hB3 hs3) | (go_at_call 39; refine (HW.out _ HB3.out hr.out).mono ?_; rintro e w4 ⟨rfl, rfl⟩) | (go_at_call 37; refine (HC.out _ HB3.out A3 c3 HS3.out).mono ?_; rintro e w5 ⟨rfl, hB5⟩))
    have HB5 := hid (HB3.out.trans (hB5.mono HB3.out.size))
    clear hB5
    go_wp2_with fail
    go_ret
    exact ⟨ret_bool (by rw [HN.out, HQ.out]; rfl), HB5.out⟩
set_option maxRecDepth 100000 in
set_option maxHeartbeats 2000000 in
theorem trap_any (n : Int) (A : Option Addr) (c : Nat) (T : List Tr) (B : Option Addr) (d : Nat) (s : List Int) (w : World) (hl : T.length ≤ maxLen) (h : SlR w w.heap.size A T) (hs : s.length ≤ maxLen) (hS : SlR w w.heap.size B s) (hok : netOK (n, T) = true) :
    Calls Tryd.prog 16 #[.agg #[.int .i64 n, .slice A T.length c], .slice B s.length d] w fun e w' => e = .returned (.bool (isN n T true s)) ∧ Below w.heap.size w w' := by
  obtain ⟨w1, hw1⟩ : ∃ w1, w1 = (w.alloc (Obj.cells #[.int .i64 n, .slice A T.length c] 24)) := ⟨_, rfl⟩
  have B1 : Below w.heap.size w w1 := by rw [hw1]; (repeat (first | exact Below.refl _ _ | assumption | refine below_drewN ?_ _ | refine Below.drew ?_ | refine Below.alloc ?_ (by (try simp); (try omega)) _ | refine Below.setCell ?_ (by (try simp); (try omega)) _))
  have x1 : Blk w1 w.heap.size 24 #[.int .i64 n, .slice A T.length c] := by rw [hw1]; exact Blk.new w _ _
  have y0 := x1.cell 0; have y1 := x1.cell 1; have z1 := x1.lt
  simp at y0 y1
  have HB1 := hid B1
  have HI := hid (isSet_any n B d s w1 hs ((hS.below B1).more B1.size))
  have HE := hid (edges_any n A c T true w1 hl ((h.below B1).more B1.size) hok)
  have HW := hid (fun W (hW : Below w.heap.size w W) (hb : ∀ x ∈ s, 0 ≤ x ∧ x < 64) => word_any B d s W hs ((hS.below hW).more hW.size) hb)
  have HOK := hid (edges_ok hok true)
  have h64 : n ≤ 64 := by
    simp only [netOK, Bool.and_eq_true, decide_eq_true_eq] at hok
    exact hok.1.1.2
  have HN := hid (show isN n T true s = (setB n s && closedN (edgesN (n, T) true) (wordN s)) from rfl)
  have hle := edgesN_len n T true
  clear h hS x1 B1 hok
  go_enter Tryd.func16, Tryd.ntmps16
  go_upto_region 1 with fail
  rw [← hw1]
  clear hw1
  cases hq : setB n s with
  | false =>
    rw [hq] at HI
    have HQ := hid hq
    clear hq
    go_wp2_with (go_at_call 38; refine HI.out.mono ?_; rintro e w2 ⟨rfl, rfl⟩)
    go_ret
    exact ⟨ret_bool (by rw [HN.out, HQ.out]; rfl), HB1.out⟩
  | true =>
    rw [hq] at HI
    have HQ := hid hq
    have hr := hid (show ∀ x ∈ s, 0 ≤ x ∧ x < 64 from fun x hx => by have := setB_mem hq x hx; omega)
    have hv := hid (word64 h64 hq)
    clear hq
    generalize edgesN (n, T) true = L at *
    have HC := hid (fun W (B1 : Below w.heap.size w W) (A9 : Option Addr) (c9 : Nat) (h9 : SlR W W.heap.size A9 L) => closed_any A9 c9 L (wordN s) W (by rw [hle]; exact hl) h9 hv.out HOK.out)
    clear hle
    go_wp2_with (first | (go_at_call 38; refine HI.out.mono ?_; rintro e w2 ⟨rfl, rfl⟩) | (go_at_call 27; refine HE.out.mono ?_; rintro e w3 ⟨v3, rfl, ho3, hB3⟩; obtain ⟨A3, c3, rfl, _, _, hs3⟩ := ho3.slr HOK.out; have HB3 := hid (HB1.out.trans (hB3.mono HB1.out.size)); have HS3 := hid hs3; clear ho3 hB3 hs3) | (go_at_call 39; refine (HW.out _ HB3.out hr.out).mono ?_; rintro e w4 ⟨rfl, rfl⟩) | (go_at_call 37; refine (HC.out _ HB3.out A3 c3 HS3.out).mono ?_; rintro e w5 ⟨rfl, hB5⟩))
    have HB5 := hid (HB3.out.trans (hB5.mono HB3.out.size))
    clear hB5
    go_wp2_with fail
    go_ret
    exact ⟨ret_bool (by rw [HN.out, HQ.out]; rfl), HB5.out⟩
end Go.Proofs.YtbbogflibekgfaaDoor
