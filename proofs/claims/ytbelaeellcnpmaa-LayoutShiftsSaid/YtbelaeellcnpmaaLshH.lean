
/- Layouts, shifts: Shifts and Backs. -/
import Derived.Test.YtbelaeellcnpmaaLshF
import Derived.Test.YtbelaeellcnpmaaLshGp
set_option linter.unusedSimpArgs false
set_option linter.unusedVariables false
namespace Go.Proofs.Ytbelaeellcnpmaa
open Go.RowKit Go.IntWalk Go.Shelf

/-- What Shifts (full) and Backs return. -/
def RetS (W H D : Int) (kind out r : List Int) (l : List Bool) (full : Bool) (w : World) (e : Ending) (w' : World) : Prop := ∃ (A' : Option Addr) (c' : Nat) (s : List Sh), e = .returned (.slice A' s.length c') ∧ s.length ≤ 144 ∧ (∀ x, x ∈ s ↔ x ∈ allS W H D kind out r l full r.length) ∧ SlR w' w'.heap.size A' s ∧ Below w.heap.size w w'
set_option maxRecDepth 100000 in
set_option maxHeartbeats 2000000 in
theorem shiftsT_any (W H D : Int) (Ak Ao : Option Addr) (ck co : Nat) (kind out : List Int) (Ar Al : Option Addr) (cr cl : Nat) (r : List Int) (l : List Bool) (t : Int) (w : World) (hF : RF W H D kind out) (hk : SlR w w.heap.size Ak kind) (ho : SlR w w.heap.size Ao out) (hr : SlR w w.heap.size Ar r) (hL : SlR w w.heap.size Al l)
    (hreg : r.Pairwise (· < ·)) (hlr : r.length = l.length) (h24 : l.length ≤ 24) :
    Calls Try.prog 6 #[.agg #[.int .i64 W, .int .i64 H, .int .i64 D, .slice Ak kind.length ck, .slice Ao out.length co], .slice Ar r.length cr, .agg #[.slice Al l.length cl, .int .i64 t]] w (RetS W H D kind out r l true w) := by
  obtain ⟨w1, hw1⟩ : ∃ w1, w1 = ((w.alloc (Obj.cells #[Value.int .i64 W, Value.int .i64 H, Value.int .i64 D, Value.slice Ak kind.length ck, Value.slice Ao out.length co] 24)).alloc (Obj.cells #[.slice Al l.length cl, .int .i64 t] 27)) := ⟨_, rfl⟩
  have B1 := hid (show Below w.heap.size w w1 by rw [hw1]; (repeat (first | exact Below.refl _ _ | assumption | refine below_drewN ?_ _ | refine Below.drew ?_ | refine Below.alloc ?_ (by (try simp); (try omega)) _ | refine Below.setCell ?_ (by (try simp); (try omega)) _)))
  have X1 := (show Blk w1 w.heap.size 24 #[Value.int .i64 W, Value.int .i64 H, Value.int .i64 D, Value.slice Ak kind.length ck, Value.slice Ao out.length co] by rw [hw1]; exact (Blk.new w _ _).alloc _)
  have X2 := (show Blk w1 (w.heap.size + 1) 27 #[.slice Al l.length cl, .int .i64 t] by rw [hw1]; exact Blk.new_at (by simp))
  have HS := hid (shifts_any W H D Ak Ao ck co kind out Ar Al cr cl r l t true w1 hF ((hk.below B1.out).more B1.out.size) ((ho.below B1.out).more B1.out.size) ((hr.below B1.out).more B1.out.size) ((hL.below B1.out).more B1.out.size) hreg hlr h24)
  have hal := hid (allS_len (W := W) (H := H) (D := D) (kind := kind) (out := out) (r := r) (l := l) (full := true) r.length)
  have hr24 := hid (show r.length ≤ 24 by omega)
  obtain ⟨k0, k1, k2, k3, k4⟩ := blk5 X1
  have l0 := X2.cell 0; have l1 := X2.cell 1; have xz := X1.lt; have lz := X2.lt
  simp at l0 l1
  clear hF hk ho hr hL hreg hlr X1 X2
  go_enter Try.func6, Try.ntmps6
  go_upto_region 1 with fail
  rw [← hw1]
  clear hw1
  go_wp2_with fail
  refine HS.out.mono ?_
  rintro e w2 ⟨A', c', s, rfl, hp, hs, hB⟩
  have BW := hid (B1.out.trans (hB.mono B1.out.size))
  have HP := hid hp
  have HSl := hid hs
  clear hB hp hs HS
  go_wp2_with fail
  go_ret
  exact ⟨A', c', s, rfl, by have h1 := HP.out.length_eq; have h2 := hal.out; have h3 := hr24.out; omega, fun x => HP.out.mem_iff, HSl.out, BW.out⟩
set_option maxRecDepth 100000 in
set_option maxHeartbeats 2000000 in
theorem backsT_any (W H D : Int) (Ak Ao : Option Addr) (ck co : Nat) (kind out : List Int) (Ar Al : Option Addr) (cr cl : Nat) (r : List Int) (l : List Bool) (t : Int) (w : World) (hF : RF W H D kind out) (hk : SlR w w.heap.size Ak kind) (ho : SlR w w.heap.size Ao out) (hr : SlR w w.heap.size Ar r) (hL : SlR w w.heap.size Al l)
    (hreg : r.Pairwise (· < ·)) (hlr : r.length = l.length) (h24 : l.length ≤ 24) :
    Calls Try.prog 12 #[.agg #[.int .i64 W, .int .i64 H, .int .i64 D, .slice Ak kind.length ck, .slice Ao out.length co], .slice Ar r.length cr, .agg #[.slice Al l.length cl, .int .i64 t]] w (RetS W H D kind out r l false w) := by
  obtain ⟨w1, hw1⟩ : ∃ w1, w1 = ((w.alloc (Obj.cells #[Value.int .i64 W, Value.int .i64 H, Value.int .i64 D, Value.slice Ak kind.length ck, Value.slice Ao out.length co] 24)).alloc (Obj.cells #[.slice Al l.length cl, .int .i64 t] 27)) := ⟨_, rfl⟩
  have B1 := hid (show Below w.heap.size w w1 by rw [hw1]; (repeat (first | exact Below.refl _ _ | assumption | refine below_drewN ?_ _ | refine Below.drew ?_ | refine Below.alloc ?_ (by (try simp); (try omega)) _ | refine Below.setCell ?_ (by (try simp); (try omega)) _)))
  have X1 := (show Blk w1 w.heap.size 24 #[Value.int .i64 W, Value.int .i64 H, Value.int .i64 D, Value.slice Ak kind.length ck, Value.slice Ao out.length co] by rw [hw1]; exact (Blk.new w _ _).alloc _)
  have X2 := (show Blk w1 (w.heap.size + 1) 27 #[.slice Al l.length cl, .int .i64 t] by rw [hw1]; exact Blk.new_at (by simp))
  have HS := hid (shifts_any W H D Ak Ao ck co kind out Ar Al cr cl r l t false w1 hF ((hk.below B1.out).more B1.out.size) ((ho.below B1.out).more B1.out.size) ((hr.below B1.out).more B1.out.size) ((hL.below B1.out).more B1.out.size) hreg hlr h24)
  have hal := hid (allS_len (W := W) (H := H) (D := D) (kind := kind) (out := out) (r := r) (l := l) (full := false) r.length)
  have hr24 := hid (show r.length ≤ 24 by omega)
  obtain ⟨k0, k1, k2, k3, k4⟩ := blk5 X1
  have l0 := X2.cell 0; have l1 := X2.cell 1; have xz := X1.lt; have lz := X2.lt
  simp at l0 l1
  clear hF hk ho hr hL hreg hlr X1 X2
  go_enter Try.func12, Try.ntmps12
  go_upto_region 1 with fail
  rw [← hw1]
  clear hw1
  go_wp2_with fail
  refine HS.out.mono ?_
  rintro e w2 ⟨A', c', s, rfl, hp, hs, hB⟩
  have BW := hid (B1.out.trans (hB.mono B1.out.size))
  have HP := hid hp
  have HSl := hid hs
  clear hB hp hs HS
  go_wp2_with fail
  go_ret
  exact ⟨A', c', s, rfl, by have h1 := HP.out.length_eq; have h2 := hal.out; have h3 := hr24.out; omega, fun x => HP.out.mem_iff, HSl.out, BW.out⟩
end Go.Proofs.Ytbelaeellcnpmaa
