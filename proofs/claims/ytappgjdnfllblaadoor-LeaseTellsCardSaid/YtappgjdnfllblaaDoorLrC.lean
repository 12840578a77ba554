
/- Lease: the reference's ReadNote; what its Read does, plain; a store into its row of zones. -/
import Derived.Test.YtappgjdnfllblaaDoorLrA
import Derived.Deep.MidRow
set_option linter.unusedSimpArgs false
set_option linter.unusedVariables false
namespace Go.Proofs.YtappgjdnfllblaaDoor
open Go.RowKit Go.IntWalk Go.Maps Go.WideMaps
/-- What the reference does with one zone: whether its numbers are fine, and the reader then. -/
def stepQ (home : List Int) (me : Int) (k : Nat) (s : RS) : Bool × RS :=
  if home.getD k 0 = me then (decide (((r3 s).1.2.2 = 0 ∨ (r3 s).1.2.2 = 1) ∧ NumB (r3 s).1.1 ∧ NumB (r3 s).1.2.1), (r3 s).2)
  else (decide (NumB (r4 s).1.1 ∧ NumB (r4 s).1.2.1 ∧ NumB (r4 s).1.2.2.1 ∧ NumB (r4 s).1.2.2.2), (r4 s).2)
def runQ (home : List Int) (me : Int) (s : RS) : Nat → Bool × RS
  | 0 => (true, s)
  | k + 1 => ((runQ home me s k).1 && (stepQ home me k (runQ home me s k).2).1, (stepQ home me k (runQ home me s k).2).2)
theorem runQ_spec (d : LDk) (s : RS) : ∀ k, match runR d s k with
    | some x => runQ d.home d.me s k = (true, x.2) ∧ x.1.me = d.me ∧ x.1.home = d.home
    | none => (runQ d.home d.me s k).1 = false := by
  intro k
  induction k with
  | zero => exact ⟨rfl, rfl, rfl⟩
  | succ k ih =>
    unfold runR runQ
    cases hr : runR d s k with
    | none =>
      rw [hr] at ih
      simp only at ih ⊢
      rw [ih]; rfl
    | some x =>
      obtain ⟨e, t⟩ := x
      rw [hr] at ih
      obtain ⟨h1, h2, h3⟩ := ih
      simp only at h2 h3 ⊢
      rw [h1]
      unfold stepR stepQ
      rw [h2, h3]
      by_cases hm : d.home.getD k 0 = d.me
      · rw [if_pos hm, if_pos hm]
        by_cases hc : ((r3 t).1.2.2 = 0 ∨ (r3 t).1.2.2 = 1) ∧ NumB (r3 t).1.1 ∧ NumB (r3 t).1.2.1
        · rw [if_pos hc]
          exact ⟨by rw [decide_eq_true hc]; rfl, h2, h3⟩
        · rw [if_neg hc]
          simp only [decide_eq_false hc]; rfl
      · rw [if_neg hm, if_neg hm]
        by_cases hc : NumB (r4 t).1.1 ∧ NumB (r4 t).1.2.1 ∧ NumB (r4 t).1.2.2.1 ∧ NumB (r4 t).1.2.2.2
        · rw [if_pos hc]
          exact ⟨by rw [decide_eq_true hc]; rfl, h2, h3⟩
        · rw [if_neg hc]
          simp only [decide_eq_false hc]; rfl
/-- Whether Read accepts. -/
theorem readDk_some {me : Int} {home : List Int} {s : List UInt8} {s1 s2 : RS} (e1 : rI (s, false) = (me, s1)) (e2 : rNs s1 = (home, s2)) :
    (readDk s).isSome = (match newDk me home with
      | none => false
      | some _ => (!(runQ home me s2 home.length).2.2 && (runQ home me s2 home.length).2.1.isEmpty) && (runQ home me s2 home.length).1) := by
  unfold readDk
  rw [e1]; simp only [e2]
  cases hn : newDk me home with
  | none => rfl
  | some d =>
    obtain ⟨e0, -⟩ := newDk_some hn
    have hme : d.me = me := by rw [e0]; rfl
    have hho : d.home = home := by rw [e0]; rfl
    have h := runQ_spec d s2 home.length
    rw [hme, hho] at h
    simp only [hho]
    cases hr : runR d s2 home.length with
    | none =>
      rw [hr] at h
      simp only at h ⊢
      rw [h]; simp
    | some x =>
      rw [hr] at h
      obtain ⟨h1, -, -⟩ := h
      rw [h1]
      obtain ⟨x1, x2, x3⟩ := x
      simp only [Bool.and_true]
      by_cases hx : ((x2, x3) : RS) = ([], false)
      · rw [if_pos hx]
        injection hx with a b
        subst a b; rfl
      · rw [if_neg hx]
        cases x3 with
        | true => rfl
        | false =>
          cases x2 with
          | nil => exact absurd rfl hx
          | cons a b => rfl
theorem zn_put {w : World} {base g n c : Nat} {l : List Zn} (h : znRK.Own w base (.slice (some ⟨g, 0, none⟩) n c) l) {k : Nat} (hk : k < l.length) (y : Zn) :
    znRK.Own (((((((w.setCell ⟨g, k * 7, none⟩ (.int .i64 y.1)).setCell ⟨g, k * 7 + 1, none⟩ (.int .i64 y.2.1)).setCell ⟨g, k * 7 + 2, none⟩ (.int .i64 y.2.2.1)).setCell ⟨g, k * 7 + 3, none⟩ (.bool y.2.2.2.1)).setCell ⟨g, k * 7 + 4, none⟩ (.int .i64 y.2.2.2.2.1)).setCell ⟨g, k * 7 + 5, none⟩ (.int .i64 y.2.2.2.2.2.1)).setCell ⟨g, k * 7 + 6, none⟩ (.int .i64 y.2.2.2.2.2.2)) base (.slice (some ⟨g, 0, none⟩) n c) (l.set k y) := by
  obtain ⟨y1, y2, y3, y4, y5, y6, y7⟩ := y
  obtain ⟨x, hx⟩ : ∃ x : Zn, x = l[k] := ⟨_, rfl⟩
  have h1 := RK.Own.set_ (R := znRK) h hk (j := 0) (y := (y1, x.2)) (u := .int .i64 y1) (by decide) (by rw [← hx]; rfl)
  have hk1 : k < (l.set k (y1, x.2)).length := by simpa using hk
  have h2 := RK.Own.set_ (R := znRK) h1 hk1 (j := 1) (y := (y1, y2, x.2.2)) (u := .int .i64 y2) (by decide) (by rw [List.getElem_set_self]; rfl)
  rw [List.set_set] at h2
  have h3 := RK.Own.set_ (R := znRK) h2 (k := k) (by simpa using hk) (j := 2) (y := (y1, y2, y3, x.2.2.2)) (u := .int .i64 y3) (by decide) (by rw [List.getElem_set_self]; rfl)
  rw [List.set_set] at h3
  have h4 := RK.Own.set_ (R := znRK) h3 (k := k) (by simpa using hk) (j := 3) (y := (y1, y2, y3, y4, x.2.2.2.2)) (u := .bool y4) (by decide) (by rw [List.getElem_set_self]; rfl)
  rw [List.set_set] at h4
  have h5 := RK.Own.set_ (R := znRK) h4 (k := k) (by simpa using hk) (j := 4) (y := (y1, y2, y3, y4, y5, x.2.2.2.2.2)) (u := .int .i64 y5) (by decide) (by rw [List.getElem_set_self]; rfl)
  rw [List.set_set] at h5
  have h6 := RK.Own.set_ (R := znRK) h5 (k := k) (by simpa using hk) (j := 5) (y := (y1, y2, y3, y4, y5, y6, x.2.2.2.2.2.2)) (u := .int .i64 y6) (by decide) (by rw [List.getElem_set_self]; rfl)
  rw [List.set_set] at h6
  have h7 := RK.Own.set_ (R := znRK) h6 (k := k) (by simpa using hk) (j := 6) (y := (y1, y2, y3, y4, y5, y6, y7)) (u := .int .i64 y7) (by decide) (by rw [List.getElem_set_self]; rfl)
  rw [List.set_set] at h7
  exact h7
theorem zn_put_gr (w : World) (g k : Nat) (y : Zn) : w.grownBy (((((((w.setCell ⟨g, k * 7, none⟩ (.int .i64 y.1)).setCell ⟨g, k * 7 + 1, none⟩ (.int .i64 y.2.1)).setCell ⟨g, k * 7 + 2, none⟩ (.int .i64 y.2.2.1)).setCell ⟨g, k * 7 + 3, none⟩ (.bool y.2.2.2.1)).setCell ⟨g, k * 7 + 4, none⟩ (.int .i64 y.2.2.2.2.1)).setCell ⟨g, k * 7 + 5, none⟩ (.int .i64 y.2.2.2.2.2.1)).setCell ⟨g, k * 7 + 6, none⟩ (.int .i64 y.2.2.2.2.2.2)) (some g) :=
  gr_tr (gr_tr (gr_tr (gr_tr (gr_tr (gr_tr (gr_set w g _ _) (gr_set _ g _ _)) (gr_set _ g _ _)) (gr_set _ g _ _)) (gr_set _ g _ _)) (gr_set _ g _ _)) (gr_set _ g _ _)
/-- A zone is stored into the row, in a drawn region. -/
theorem storeZS {F : Fence} {n0 : Nat} {o : Oper} {a : Act} {w : World} {K : Act → World → Prop} {Q : Exit → Act → World → Prop} (hF : ∀ f, F.fn f) (x y : Operand) (ho : o.op = .store 90 x y)
    {g k n c base : Nat} {l : List Zn} {z : Zn} (hx : a.eval x = .pointer (some ⟨g, k * 7, none⟩)) (hy : a.eval y = .agg (znRK.cs z).toArray) (hO : znRK.Own w base (.slice (some ⟨g, 0, none⟩) n c) l) (hk : k < l.length)
    (h : ∀ w', znRK.Own w' base (.slice (some ⟨g, 0, none⟩) n c) (l.set k z) → w.grownBy w' (some g) → K (a.put o.dst undef) w') : Oper.wpIn F n0 Tryd.prog o a w K Q := by
  obtain ⟨h1, h2, h3, h4⟩ := RK.Own.at_ (R := znRK) hO hk
  have ht : w.there g (k * 7) (znRK.cs z).toArray.size := by
    intro j hj
    have hj' : j < 7 := hj
    refine ⟨?_, h4 _⟩
    have h9 : w.cell? ⟨g, k * 7 + j, none⟩ = (znRK.cs l[k])[j]? := h3 j hj'
    rw [h9, List.getElem?_eq_getElem (by rw [znRK.len]; exact hj')]
    rfl
  have hr : (Instr.storeAt 90 (.pointer (some ⟨g, k * 7, none⟩)) (.agg (znRK.cs z).toArray)).run Tryd.prog w = .ok () (w.setCells g (k * 7) (znRK.cs z).toArray.toList) := run_storeAt_mid w g (k * 7) _ _ ht (by kernel_rfl) (Array.all_eq_true_iff_forall_mem.2 (fun v hv => znRK.one z v (by simpa using hv)))
  have hO2 := zn_put hO hk z
  have hG2 := zn_put_gr w g k z
  have e : w.setCells g (k * 7) (znRK.cs z).toArray.toList = (((((((w.setCell ⟨g, k * 7, none⟩ (.int .i64 z.1)).setCell ⟨g, k * 7 + 1, none⟩ (.int .i64 z.2.1)).setCell ⟨g, k * 7 + 2, none⟩ (.int .i64 z.2.2.1)).setCell ⟨g, k * 7 + 3, none⟩ (.bool z.2.2.2.1)).setCell ⟨g, k * 7 + 4, none⟩ (.int .i64 z.2.2.2.2.1)).setCell ⟨g, k * 7 + 5, none⟩ (.int .i64 z.2.2.2.2.2.1)).setCell ⟨g, k * 7 + 6, none⟩ (.int .i64 z.2.2.2.2.2.2)) := rfl
  rw [← e] at hO2 hG2
  have h := h _ hO2 hG2
  unfold Oper.wpIn
  rw [Oper.semAt_plain F _ _ (by rw [ho]; intro c hc; cases hc)]
  have hs : (execOp a.eval o).run Tryd.prog w = .ok .skip (w.setCells g (k * 7) (znRK.cs z).toArray.toList) := by
    unfold execOp
    simp only [ho, hx, hy, Sem.run_bind, Sem.run_pure, Result.andThen_ok, hr]
  rw [hs]
  exact ⟨fun f _ => hF f, h⟩
theorem rrNs_f (s : RS) (hok : RSok s) (hl : s.1.length ≤ 1000000000000) (b : Nat) (W : World) (h : Rr W b s.1 s.2) :
    Calls Tryd.prog 58 #[.pointer (some ⟨b, 0, none⟩)] W fun e w' => ∃ A c, e = .returned (.slice A (rNs s).1.length c) ∧ (rNs s).1.length ≤ c ∧ c ≤ maxLen ∧ SlR w' w'.heap.size A (rNs s).1 ∧ Rr w' b (rNs s).2.1 (rNs s).2.2 ∧ W.grownBy w' (some b) := by
  obtain ⟨xs, l', bad', hxs, _, _, _, hor⟩ := nums_uni s.1 s.2 hl hok
  have e : rNs s = (xs, l', bad') := by
    unfold rNs
    rcases hor with ⟨h1, rfl⟩ | ⟨h1, rfl, rfl, rfl⟩ <;> rw [h1]
  rw [e]
  have hc := numsRr_any b s.1 s.2 W h hok hl
  rcases hor with ⟨h1, rfl⟩ | ⟨h1, rfl, rfl, rfl⟩
  · have hb : s.2 = false := by
      cases h2 : s.2 with
      | false => rfl
      | true => rw [hok h2] at h1; simp [listL, numL, Lib.indexByte] at h1
    rw [h1] at hc
    refine hc.mono ?_
    rintro e w' ⟨v, rfl, h2, h3, h4⟩
    obtain ⟨A, c, rfl, h5, h6, h7⟩ := h2.slr hxs
    exact ⟨A, c, rfl, h5, h6, h7, by rw [hb]; exact h3, h4⟩
  · rw [h1] at hc
    refine hc.mono ?_
    rintro e w' ⟨rfl, h3, h4⟩
    exact ⟨none, 0, rfl, by simp, by simp [maxLen], SlR.nil, h3, h4⟩
set_option maxRecDepth 100000 in
set_option maxHeartbeats 2000000 in
theorem rrnote_any (s : ByteArray) (w : World) (hs : s.size ≤ 90000) : Calls Tryd.prog 11 #[.string s] w (NoRes w (readN s.data.toList)) := by
  have hl0 : s.data.toList.length ≤ 90000 := by rw [← size_list]; exact hs
  obtain ⟨k, s1, e1⟩ : ∃ x s', rI (s.data.toList, false) = (x, s') := ⟨_, _, rfl⟩
  obtain ⟨z, s2, e2⟩ : ∃ x s', rI s1 = (x, s') := ⟨_, _, rfl⟩
  obtain ⟨u, s3, e3⟩ : ∃ x s', rI s2 = (x, s') := ⟨_, _, rfl⟩
  obtain ⟨n, s4, e4⟩ : ∃ x s', rI s3 = (x, s') := ⟨_, _, rfl⟩
  have hT := hid (show readN s.data.toList = if s4 = ([], false) then some (k, z, u, n) else none by
    unfold readN r4
    rw [e1]; simp only [e2, e3, e4])
  have l1 := rI_le (s.data.toList, false); have l2 := rI_le s1; have l3 := rI_le s2
  have c1 := rrInt_f (s.data.toList, false) (by simp only; omega)
  rw [e1] at l1 c1
  have c2 := rrInt_f s1 (by simp only at l1; omega)
  rw [e2] at l2 c2
  have c3 := rrInt_f s2 (by simp only at l1 l2; omega)
  rw [e3] at l3 c3
  have c4 := rrInt_f s3 (by simp only at l1 l2 l3; omega)
  rw [e4] at c4
  simp only at c1 c2 c3 c4
  have C1 := hid c1
  have C2 := hid c2
  have C3 := hid c3
  have C4 := hid c4
  clear c1 c2 c3 c4 e1 e2 e3 e4 l1 l2 l3
  have hb0 := hid (show Below w.heap.size w (w.alloc (Obj.cells #[.int .i64 0, .int .i64 0, .int .i64 0, .int .i64 0] 26)) by (repeat (first | exact Below.refl _ _ | assumption | refine below_drewN ?_ _ | refine Below.drew ?_ | refine Below.alloc ?_ (by (try simp); (try omega)) _ | refine Below.setCell ?_ (by (try simp); (try omega)) _)))
  have bz := hid (Blk.new w 26 #[.int .i64 0, .int .i64 0, .int .i64 0, .int .i64 0])
  go_enter Tryd.func11, Tryd.ntmps11
  go_wp2_with fail
  refine (openR_any s _).mono ?_
  rintro e w1 ⟨rfl, hR, hB⟩
  have hB1 := hid (hb0.out.trans (hB.mono hb0.out.size))
  have bz1 := hid (bz.out.below hB bz.out.lt)
  clear hB hb0 bz
  generalize hbq : (w.alloc (Obj.cells #[.int .i64 0, .int .i64 0, .int .i64 0, .int .i64 0] 26)).heap.size = b at *
  have hwb : w.heap.size < b := by rw [← hbq]; simp
  clear hbq
  go_wp2_with fail
  refine (C1.out _ _ hR).mono ?_
  rintro e w2 ⟨rfl, hR2, hg⟩
  have hB2 := hid (bg hB1.out hg (by omega))
  have bz2 := hid (Blk.grown bz1.out hg (fun e => by injection e with e; omega))
  clear hR hB1 hg bz1 C1
  have R3 := hid (show Rr (w2.alloc (Obj.cells #[.int .i64 k, .int .i64 0, .int .i64 0, .int .i64 0] 26)) b s1.1 s1.2 from Blk.alloc hR2 _)
  have B3 := hid (hB2.out.alloc hB2.out.size (Obj.cells #[.int .i64 k, .int .i64 0, .int .i64 0, .int .i64 0] 26))
  have z3 := hid (bz2.out.alloc (Obj.cells #[.int .i64 k, .int .i64 0, .int .i64 0, .int .i64 0] 26))
  have x3 := hid (Blk.new w2 26 #[.int .i64 k, .int .i64 0, .int .i64 0, .int .i64 0])
  have hgb := hid (show b < w2.heap.size from Blk.lt hR2)
  clear hB2 bz2 hR2
  go_upto_region 3 with fail
  generalize (w2.alloc (Obj.cells #[.int .i64 k, .int .i64 0, .int .i64 0, .int .i64 0] 26)) = w3 at *
  generalize w2.heap.size = g at *
  have HGB := hid (And.intro hwb hgb.out)
  clear hgb hwb
  go_wp2_with fail
  refine (C2.out _ _ R3.out).mono ?_
  rintro e w4 ⟨rfl, hR4, hg⟩
  have B4 := hid (bg B3.out hg (by have := HGB.out; omega))
  have z4 := hid (Blk.grown z3.out hg (fun e => by injection e with e; have := HGB.out; omega))
  have x4 := hid (Blk.grown x3.out hg (fun e => by injection e with e; have := HGB.out; omega))
  clear R3 B3 z3 x3 hg C2
  have q0 := x4.out.cell 1; have fz := x4.out.frozen; have lt4 := x4.out.lt
  simp at q0
  go_upto_region 4 with fail
  have R5 := hid (show Rr (w4.setCell ⟨g, 1, none⟩ (.int .i64 z)) b s2.1 s2.2 from Blk.far hR4 (by have := HGB.out; simp; omega) _)
  have B5 := hid (B4.out.setCell (p := ⟨g, 1, none⟩) (by have := HGB.out; simp; omega) (.int .i64 z))
  have z5 := hid (z4.out.far (p := ⟨g, 1, none⟩) (by have := HGB.out; simp; omega) (.int .i64 z))
  have x5 := hid (x4.out.set_ 1 (.int .i64 z))
  simp at x5
  clear q0 fz lt4 hR4 B4 z4 x4
  generalize w4.setCell ⟨g, 1, none⟩ (.int .i64 z) = w5 at *
  go_wp2_with fail
  refine (C3.out _ _ R5.out).mono ?_
  rintro e w6 ⟨rfl, hR6, hg⟩
  have B6 := hid (bg B5.out hg (by have := HGB.out; omega))
  have z6 := hid (Blk.grown z5.out hg (fun e => by injection e with e; have := HGB.out; omega))
  have x6 := hid (Blk.grown x5.out hg (fun e => by injection e with e; have := HGB.out; omega))
  clear R5 B5 z5 x5 hg C3
  have q0 := x6.out.cell 2; have fz := x6.out.frozen; have lt4 := x6.out.lt
  simp at q0
  go_upto_region 5 with fail
  have R7 := hid (show Rr (w6.setCell ⟨g, 2, none⟩ (.int .i64 u)) b s3.1 s3.2 from Blk.far hR6 (by have := HGB.out; simp; omega) _)
  have B7 := hid (B6.out.setCell (p := ⟨g, 2, none⟩) (by have := HGB.out; simp; omega) (.int .i64 u))
  have z7 := hid (z6.out.far (p := ⟨g, 2, none⟩) (by have := HGB.out; simp; omega) (.int .i64 u))
  have x7 := hid (x6.out.set_ 2 (.int .i64 u))
  simp at x7
  clear q0 fz lt4 hR6 B6 z6 x6
  generalize w6.setCell ⟨g, 2, none⟩ (.int .i64 u) = w7 at *
  go_wp2_with fail
  refine (C4.out _ _ R7.out).mono ?_
  rintro e w8 ⟨rfl, hR8, hg⟩
  have B8 := hid (bg B7.out hg (by have := HGB.out; omega))
  have z8 := hid (Blk.grown z7.out hg (fun e => by injection e with e; have := HGB.out; omega))
  have x8 := hid (Blk.grown x7.out hg (fun e => by injection e with e; have := HGB.out; omega))
  clear R7 B7 z7 x7 hg C4
  have q0 := x8.out.cell 3; have fz := x8.out.frozen; have lt4 := x8.out.lt
  simp at q0
  go_upto_region 6 with fail
  have R9 := hid (show Rr (w8.setCell ⟨g, 3, none⟩ (.int .i64 n)) b s4.1 s4.2 from Blk.far hR8 (by have := HGB.out; simp; omega) _)
  have B9 := hid (B8.out.setCell (p := ⟨g, 3, none⟩) (by have := HGB.out; simp; omega) (.int .i64 n))
  have z9 := hid (z8.out.far (p := ⟨g, 3, none⟩) (by have := HGB.out; simp; omega) (.int .i64 n))
  have x9 := hid (x8.out.set_ 3 (.int .i64 n))
  simp at x9
  clear q0 fz lt4 hR8 B8 z8 x8
  generalize w8.setCell ⟨g, 3, none⟩ (.int .i64 n) = w9 at *
  have hd := doneR_any b s4.1 s4.2 w9 R9.out
  clear R9
  cases hdn : (!s4.2 && s4.1.isEmpty) with
  | false =>
    have hr := hid (show readN s.data.toList = none by
      rw [hT.out, if_neg]
      intro h
      rw [h] at hdn
      simp at hdn)
    rw [hdn] at hd
    have Hd := hid hd
    clear hd hdn
    go_wp2_with fail
    refine Hd.out.mono ?_
    rintro e wa ⟨rfl, hB⟩
    have Ba := hid (B9.out.trans (hB.mono B9.out.size))
    have za := hid (z9.out.below hB z9.out.lt)
    have r0 := za.out.cell 0; have r1 := za.out.cell 1; have r2 := za.out.cell 2; have r3 := za.out.cell 3; have fz := za.out.frozen
    simp at r0 r1 r2 r3
    clear hB B9 z9 x9 Hd
    go_wp2_with fail
    have N4 := hid ((((za.out.set_ 0 (.int .i64 0)).set_ 1 (.int .i64 0)).set_ 2 (.int .i64 0)).set_ 3 (.int .i64 0))
    simp at N4
    have B4 := hid ((((Ba.out.setCell (p := ⟨w.heap.size, 0, none⟩) (Nat.le_refl _) (.int .i64 0)).setCell (p := ⟨w.heap.size, 1, none⟩) (Nat.le_refl _) (.int .i64 0)).setCell (p := ⟨w.heap.size, 2, none⟩) (Nat.le_refl _) (.int .i64 0)).setCell (p := ⟨w.heap.size, 3, none⟩) (Nat.le_refl _) (.int .i64 0))
    refine bodyPost_ret (lres_row Tryd.results11 _ _ w.heap.size 26 #[.int .i64 0, .int .i64 0, .int .i64 0, .int .i64 0] (0, 0) _ rfl N4.out Tryd.underlying26 rfl (by kernel_rfl)) rfl ?_
    rw [hr.out]
    exact ⟨rfl, B4.out⟩
  | true =>
    have hr := hid (show readN s.data.toList = some (k, z, u, n) by
      rw [hT.out, if_pos]
      obtain ⟨l, bd⟩ := s4
      simp only at hdn
      cases bd <;> simp_all)
    rw [hdn] at hd
    have Hd := hid hd
    clear hd hdn
    go_wp2_with fail
    refine Hd.out.mono ?_
    rintro e wa ⟨rfl, hB⟩
    have Ba := hid (B9.out.trans (hB.mono B9.out.size))
    have za := hid (z9.out.below hB z9.out.lt)
    have xa := hid (x9.out.below hB x9.out.lt)
    have hne := hid (show w.heap.size ≠ g by have := HGB.out; omega)
    have r0 := za.out.cell 0; have r1 := za.out.cell 1; have r2 := za.out.cell 2; have r3 := za.out.cell 3; have fz := za.out.frozen
    have y0 := xa.out.cell 0; have y1 := xa.out.cell 1; have y2 := xa.out.cell 2; have y3 := xa.out.cell 3
    simp at r0 r1 r2 r3 y0 y1 y2 y3
    clear hB B9 z9 x9 Hd
    go_wp2_with fail
    have N4 := hid ((((za.out.set_ 0 (.int .i64 k)).set_ 1 (.int .i64 z)).set_ 2 (.int .i64 u)).set_ 3 (.int .i64 n))
    simp at N4
    have B4 := hid ((((Ba.out.setCell (p := ⟨w.heap.size, 0, none⟩) (Nat.le_refl _) (.int .i64 k)).setCell (p := ⟨w.heap.size, 1, none⟩) (Nat.le_refl _) (.int .i64 z)).setCell (p := ⟨w.heap.size, 2, none⟩) (Nat.le_refl _) (.int .i64 u)).setCell (p := ⟨w.heap.size, 3, none⟩) (Nat.le_refl _) (.int .i64 n))
    refine bodyPost_ret (lres_row Tryd.results11 _ _ w.heap.size 26 #[.int .i64 k, .int .i64 z, .int .i64 u, .int .i64 n] (0, 0) _ rfl N4.out Tryd.underlying26 rfl (by kernel_rfl)) rfl ?_
    rw [hr.out]
    exact ⟨rfl, B4.out⟩
end Go.Proofs.YtappgjdnfllblaaDoor
