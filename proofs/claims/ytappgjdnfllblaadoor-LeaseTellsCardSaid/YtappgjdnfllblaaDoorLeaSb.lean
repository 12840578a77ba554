
/- Lease: the laws' small. -/
import Derived.Test.YtappgjdnfllblaaDoorLeaSa
set_option linter.unusedSimpArgs false
set_option linter.unusedVariables false
namespace Go.Proofs.YtappgjdnfllblaaDoor
open Go.RowKit Go.IntWalk Go.Maps Go.WideMaps
def dA0 : LDk := newD 0 [0]
def dB0 : LDk := newD 1 [0]
def dA1 : LDk := (giveF dA0 0 10 3).2
def dB1 : LDk := (hearF dB0 (1, 0, 10, 1)).2
def dB2 : LDk := (backF dB1 0).2
def dA2 : LDk := (hearF dA1 (2, 0, 0, 1)).2
def dB3 : LDk := (hearF dB2 (1, 0, 10, 1)).2
theorem sm_facts : (giveF dA0 0 10 3).1 = ((1, 0, 10, 1), 0) ∧ (hearF dB0 (1, 0, 10, 1)).1 = 0 ∧ lHolds dA1 0 9 = false ∧ lHolds dB1 0 7 = true ∧ lHolds dB1 0 8 = false ∧ (backF dB1 0).1 = ((2, 0, 0, 1), 0) ∧ (hearF dA1 (2, 0, 0, 1)).1 = 0 ∧ lHolds dA2 0 4 = true ∧ (hearF dB2 (1, 0, 10, 1)).1 = 0 ∧ lHolds dB3 0 4 = false := by
  refine ⟨?_, ?_, ?_, ?_, ?_, ?_, ?_, ?_, ?_, ?_⟩ <;> decide
theorem sm_ok : OkI dA0 2000 ∧ OkI dB0 2000 ∧ OkI dA1 2001 ∧ OkI dB1 2000 ∧ OkI dB2 2000 ∧ OkI dA2 2001 ∧ OkI dB3 2000 := by
  have a0 : OkI dA0 2000 := newD_okI (by simp) (by simp) (by simp) (by omega)
  have b0 : OkI dB0 2000 := newD_okI (by simp) (by simp) (by simp) (by omega)
  have a1 : OkI dA1 2001 := (giveF_ok a0 (by omega) (by omega) 0 10 3 (by omega) (by omega)).1
  have b1 : OkI dB1 2000 := (hearF_ok b0 (by omega) (by omega) (1, 0, 10, 1) (by simp) (by simp)).1
  have b2 : OkI dB2 2000 := (backF_ok b1 (by omega) (by omega) 0).1
  exact ⟨a0, b0, a1, b1, b2, (hearF_ok a1 (by omega) (by omega) (2, 0, 0, 1) (by simp) (by simp)).1, (hearF_ok b2 (by omega) (by omega) (1, 0, 10, 1) (by simp) (by simp)).1⟩
theorem i0 : I64 0 := by simp [I64]
set_option maxRecDepth 100000 in
set_option maxHeartbeats 4000000 in
theorem lsmall_any (w : World) : Calls Tryd.prog 8 #[] w fun e w' => e = .returned (.bool true) ∧ Below w.heap.size w w' := by
  obtain ⟨f1, f2, f3, f4, f5, f6, f7, f8, f9, f10⟩ := sm_facts
  obtain ⟨ka0, kb0, ka1, kb1, kb2, ka2, kb3⟩ := sm_ok
  have CG := hid (fun (W : World) (A : DM) (h : LdM W A dA0) => give_f h ka0.1 (z := 0) (unt := 10) (now := 3) i0 (by simp [I64]) (by omega))
  have CH1 := hid (fun (W : World) (A : DM) (h : LdM W A dB0) => hear_f h kb0.1 (1, 0, 10, 1) i0)
  have CA1 := hid (fun (W : World) (A : DM) (h : LdM W A dA1) => holds_any h ka1.1 (z := 0) (now := 9) i0 (by omega))
  have CB1 := hid (fun (W : World) (A : DM) (h : LdM W A dB1) => holds_any h kb1.1 (z := 0) (now := 7) i0 (by omega))
  have CB2 := hid (fun (W : World) (A : DM) (h : LdM W A dB1) => holds_any h kb1.1 (z := 0) (now := 8) i0 (by omega))
  have CBk := hid (fun (W : World) (A : DM) (h : LdM W A dB1) => back_f h kb1.1 (z := 0) i0)
  have CH2 := hid (fun (W : World) (A : DM) (h : LdM W A dA1) => hear_f h ka1.1 (2, 0, 0, 1) i0)
  have CA2 := hid (fun (W : World) (A : DM) (h : LdM W A dA2) => holds_any h ka2.1 (z := 0) (now := 4) i0 (by omega))
  have CH3 := hid (fun (W : World) (A : DM) (h : LdM W A dB2) => hear_f h kb2.1 (1, 0, 10, 1) i0)
  have CB3 := hid (fun (W : World) (A : DM) (h : LdM W A dB3) => holds_any h kb3.1 (z := 0) (now := 4) i0 (by omega))
  rw [show (giveF dA0 0 10 3).1.1 = (1, 0, 10, 1) by rw [f1], show (giveF dA0 0 10 3).1.2 = 0 by rw [f1], show (giveF dA0 0 10 3).2 = dA1 from rfl] at CG
  rw [f2, show (hearF dB0 (1, 0, 10, 1)).2 = dB1 from rfl] at CH1
  rw [f3] at CA1
  rw [f4] at CB1
  rw [f5] at CB2
  rw [show (backF dB1 0).1.1 = (2, 0, 0, 1) by rw [f6], show (backF dB1 0).1.2 = 0 by rw [f6], show (backF dB1 0).2 = dB2 from rfl] at CBk
  rw [f7, show (hearF dA1 (2, 0, 0, 1)).2 = dA2 from rfl] at CH2
  rw [f8] at CA2
  rw [f9, show (hearF dB2 (1, 0, 10, 1)).2 = dB3 from rfl] at CH3
  rw [f10] at CB3
  simp only [noteV, noteC] at CG CH1 CBk CH2 CH3
  clear f1 f2 f3 f4 f5 f6 f7 f8 f9 f10 ka0 kb0 ka1 kb1 kb2 ka2 kb3
  have W1 := hid (show SlR (w.alloc (Obj.cells #[.int .i64 0] 3)) (w.alloc (Obj.cells #[.int .i64 0] 3)).heap.size (some ⟨w.heap.size, 0, none⟩) ([0] : List Int) from Blk.ints (l := [0]) (Blk.new w 3 #[.int .i64 0]) (by simp) (by simp [I64]))
  have N1 := hid (lnew_any 0 (some ⟨w.heap.size, 0, none⟩) 1 [0] (w.alloc (Obj.cells #[.int .i64 0] 3)) i0 (by simp) (by simp [maxLen]) W1.out)
  rw [show newDk 0 [0] = some dA0 from rfl] at N1
  have B1 := hid (show Below w.heap.size w (w.alloc (Obj.cells #[.int .i64 0] 3)) by (repeat (first | exact Below.refl _ _ | assumption | refine below_drewN ?_ _ | refine Below.drew ?_ | refine Below.alloc ?_ (by (try simp); (try omega)) _ | refine Below.setCell ?_ (by (try simp); (try omega)) _)))
  go_enter Tryd.func8, Tryd.ntmps8
  go_wp2_with fail
  refine N1.out.mono ?_
  rintro e w2 ⟨b, v, mh, mg, rfl, hL, hB⟩
  have B2 := hid (B1.out.trans (hB.mono B1.out.size))
  have L2 := hid hL
  have Z2 := hid B1.out.size
  clear hL hB N1 W1 B1
  generalize (w.alloc (Obj.cells #[.int .i64 0] 3)).heap.size = x1 at *
  have W2 := hid (show SlR (w2.alloc (Obj.cells #[.int .i64 0] 3)) (w2.alloc (Obj.cells #[.int .i64 0] 3)).heap.size (some ⟨w2.heap.size, 0, none⟩) ([0] : List Int) from Blk.ints (l := [0]) (Blk.new w2 3 #[.int .i64 0]) (by simp) (by simp [I64]))
  have N2 := hid (lnew_any 1 (some ⟨w2.heap.size, 0, none⟩) 1 [0] (w2.alloc (Obj.cells #[.int .i64 0] 3)) (by simp [I64]) (by simp) (by simp [maxLen]) W2.out)
  rw [show newDk 1 [0] = some dB0 from rfl] at N2
  have L3 := hid (L2.out.below (show Below w2.heap.size w2 (w2.alloc (Obj.cells #[.int .i64 0] 3)) by (repeat (first | exact Below.refl _ _ | assumption | refine below_drewN ?_ _ | refine Below.drew ?_ | refine Below.alloc ?_ (by (try simp); (try omega)) _ | refine Below.setCell ?_ (by (try simp); (try omega)) _))))
  have B3 := hid (B2.out.alloc B2.out.size (Obj.cells #[.int .i64 0] 3))
  clear L2 B2
  go_wp2_with fail
  refine N2.out.mono ?_
  rintro e w4 ⟨b2, v2, mh2, mg2, rfl, hL, hB⟩
  have T0 := hid (show Tw w w4 ⟨x1, b, mh, mg, v⟩ ⟨(w2.alloc (Obj.cells #[.int .i64 0] 3)).heap.size, b2, mh2, mg2, v2⟩ dA0 dB0 from by
    have q1 := hL.ha; have q2 := hL.ga
    have l1 := L3.out.h.lt; have l2 := L3.out.g.lt
    exact ⟨B3.out.trans (hB.mono B3.out.size), Z2.out, B3.out.size, L3.out.below hB, hL, ⟨by dsimp only; omega, by dsimp only; omega, by dsimp only; omega, by dsimp only; omega⟩⟩)
  clear hL hB L3 B3 N2 W2 Z2
  generalize (w2.alloc (Obj.cells #[.int .i64 0] 3)).heap.size = x2 at *
  go_wp2_with fail
  refine (CG.out _ ⟨x1, b, mh, mg, v⟩ T0.out.la).mono ?_
  rintro e w5 ⟨rfl, hL, q, hq, hg⟩
  have T1' := hid (T0.out.desk0 hq hL hg)
  have T1 := hid (T1'.out.step (show Below w5.heap.size w5 (w5.alloc (Obj.cells #[.int .i64 1, .int .i64 0, .int .i64 10, .int .i64 1] 26)) by (repeat (first | exact Below.refl _ _ | assumption | refine below_drewN ?_ _ | refine Below.drew ?_ | refine Below.alloc ?_ (by (try simp); (try omega)) _ | refine Below.setCell ?_ (by (try simp); (try omega)) _))))
  have X1 := hid (Blk.new w5 26 #[.int .i64 1, .int .i64 0, .int .i64 10, .int .i64 1])
  clear hL hq hg T0 T1'
  go_upto_region 6 with fail
  generalize (w5.alloc (Obj.cells #[.int .i64 1, .int .i64 0, .int .i64 10, .int .i64 1] 26)) = w6 at *
  generalize w5.heap.size = g3 at *
  have y0 := X1.out.cell 0; have y1 := X1.out.cell 1; have y2 := X1.out.cell 2; have y3 := X1.out.cell 3; have yl := X1.out.lt
  simp at y0 y1 y2 y3
  go_wp2_with fail
  refine (CH1.out _ ⟨x2, b2, mh2, mg2, v2⟩ T1.out.lb).mono ?_
  rintro e w7 ⟨rfl, hL, q, hq, hg⟩
  have T2 := hid (T1.out.desk1 hq hL hg)
  have X2 := hid (X1.out.grown hg (by intro e; injection e with e; rcases hq with h | h <;> subst h <;> subst e <;> first | exact T1.out.lb.h.apart X1.out rfl | exact T1.out.lb.g.apart X1.out rfl))
  clear hL hq hg T1 X1 y0 y1 y2 y3 yl
  go_wp2_with fail
  refine (CA1.out _ ⟨x1, b, mh, mg, v⟩ T2.out.la).mono ?_
  rintro e w8 ⟨rfl, hB⟩
  have T3 := hid (T2.out.step hB)
  have X3 := hid (X2.out.below hB X2.out.lt)
  clear X2
  clear hB T2
  go_wp2_with fail
  refine (CB1.out _ ⟨x2, b2, mh2, mg2, v2⟩ T3.out.lb).mono ?_
  rintro e w9 ⟨rfl, hB⟩
  have T4 := hid (T3.out.step hB)
  have X4 := hid (X3.out.below hB X3.out.lt)
  clear X3
  clear hB T3
  go_wp2_with fail
  refine (CB2.out _ ⟨x2, b2, mh2, mg2, v2⟩ T4.out.lb).mono ?_
  rintro e w10 ⟨rfl, hB⟩
  have T5 := hid (T4.out.step hB)
  have X5 := hid (X4.out.below hB X4.out.lt)
  clear X4
  clear hB T4
  go_wp2_with fail
  refine (CBk.out _ ⟨x2, b2, mh2, mg2, v2⟩ T5.out.lb).mono ?_
  rintro e w11 ⟨rfl, hL, q, hq, hg⟩
  have T6' := hid (T5.out.desk1 hq hL hg)
  have X6' := hid (X5.out.grown hg (by intro e; injection e with e; rcases hq with h | h <;> subst h <;> subst e <;> first | exact T5.out.lb.h.apart X5.out rfl | exact T5.out.lb.g.apart X5.out rfl))
  have T6 := hid (T6'.out.step (show Below w11.heap.size w11 (w11.alloc (Obj.cells #[.int .i64 2, .int .i64 0, .int .i64 0, .int .i64 1] 26)) by (repeat (first | exact Below.refl _ _ | assumption | refine below_drewN ?_ _ | refine Below.drew ?_ | refine Below.alloc ?_ (by (try simp); (try omega)) _ | refine Below.setCell ?_ (by (try simp); (try omega)) _))))
  have X6 := hid (X6'.out.alloc (Obj.cells #[.int .i64 2, .int .i64 0, .int .i64 0, .int .i64 1] 26))
  have Y6 := hid (Blk.new w11 26 #[.int .i64 2, .int .i64 0, .int .i64 0, .int .i64 1])
  clear hL hq hg T5 T6' X5 X6'
  go_upto_region 8 with fail
  generalize (w11.alloc (Obj.cells #[.int .i64 2, .int .i64 0, .int .i64 0, .int .i64 1] 26)) = w12 at *
  generalize w11.heap.size = g6 at *
  have y0 := Y6.out.cell 0; have y1 := Y6.out.cell 1; have y2 := Y6.out.cell 2; have y3 := Y6.out.cell 3; have yl := Y6.out.lt
  simp at y0 y1 y2 y3
  go_wp2_with fail
  refine (CH2.out _ ⟨x1, b, mh, mg, v⟩ T6.out.la).mono ?_
  rintro e w13 ⟨rfl, hL, q, hq, hg⟩
  have T7 := hid (T6.out.desk0 hq hL hg)
  have X7 := hid (X6.out.grown hg (by intro e; injection e with e; rcases hq with h | h <;> subst h <;> subst e <;> first | exact T6.out.la.h.apart X6.out rfl | exact T6.out.la.g.apart X6.out rfl))
  clear hL hq hg T6 X6 Y6 y0 y1 y2 y3 yl
  go_wp2_with fail
  refine (CA2.out _ ⟨x1, b, mh, mg, v⟩ T7.out.la).mono ?_
  rintro e w14 ⟨rfl, hB⟩
  have T8 := hid (T7.out.step hB)
  have X8 := hid (X7.out.below hB X7.out.lt)
  clear X7
  clear hB T7
  go_upto_region 9 with fail
  have y0 := X8.out.cell 0; have y1 := X8.out.cell 1; have y2 := X8.out.cell 2; have y3 := X8.out.cell 3; have yl := X8.out.lt
  simp at y0 y1 y2 y3
  go_wp2_with fail
  refine (CH3.out _ ⟨x2, b2, mh2, mg2, v2⟩ T8.out.lb).mono ?_
  rintro e w15 ⟨rfl, hL, q, hq, hg⟩
  have T9 := hid (T8.out.desk1 hq hL hg)
  clear hL hq hg T8 X8 y0 y1 y2 y3 yl
  go_wp2_with fail
  refine (CB3.out _ ⟨x2, b2, mh2, mg2, v2⟩ T9.out.lb).mono ?_
  rintro e w16 ⟨rfl, hB⟩
  have T10 := hid (T9.out.step hB)
  clear hB T9
  go_wp2_with fail
  go_ret
  exact ⟨rfl, T10.out.below⟩
end Go.Proofs.YtappgjdnfllblaaDoor
