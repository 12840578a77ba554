
/- Layouts: Read. -/
import Derived.Test.YtgbgcmhmlnmklaaGreatDoorLayR
import Derived.Deep.RegionWith
set_option linter.unusedSimpArgs false
set_option linter.unusedVariables false
namespace Go.Proofs.YtgbgcmhmlnmklaaGreatDoor
open Go.RowKit Go.IntWalk

theorem blk_new2 (w : World) (o : Obj) (t : TypeId) (cs : Array Value) : Blk ((w.alloc o).alloc (.cells cs t)) (w.heap.size + 1) t cs := Blk.new_at (by simp)
theorem below_al {w w' : World} (h : Below w.heap.size w w') (o : Obj) : Below w.heap.size w (w'.alloc o) := h.alloc h.size o
/-- A layout that was read, or none. -/
def LaRes (w : World) (r : Option (List Bool × Int)) (e : Ending) (w' : World) : Prop :=
  match r with
  | some (f, t) => ∃ g, e = .returned (.tuple #[.agg #[.slice (some ⟨g, 0, none⟩) f.length f.length, .int .i64 t], .bool true]) ∧ SlR w' w'.heap.size (some ⟨g, 0, none⟩) f ∧ Below w.heap.size w w'
  | none => e = .returned (.tuple #[.agg #[.slice none 0 0, .int .i64 0], .bool false]) ∧ Below w.heap.size w w'
theorem laRes_none {w w' : World} {r : Option (List Bool × Int)} {e : Ending} (hr : r = none) (he : e = .returned (.tuple #[.agg #[.slice none 0 0, .int .i64 0], .bool false])) (h : Below w.heap.size w w') : LaRes w r e w' := by
  subst hr; exact ⟨he, h⟩
/-- The world while a layout is read: the result's block, the reader, the layout's box, its cells, the list that was read. -/
structure LW (w : World) (b B gL gF : Nat) (full : List Bool) (t : Int) (s3 : List UInt8) (bad3 : Bool) (A : Option Addr) (xs : List Int) (wx : World) : Prop where
  below : Below w.heap.size w wx
  r : Blk wx w.heap.size 27 #[.slice none 0 0, .int .i64 0]
  rd : Rd wx b s3 bad3
  bl : Blk wx gL 27 #[.slice (some ⟨gF, 0, none⟩) full.length full.length, .int .i64 t]
  bf : Blk wx gF 4 (full.map Value.bool).toArray
  xs : SlR wx B A xs
  hb : w.heap.size < b
  hB : b < B
  hL : B ≤ gL
  hF : B ≤ gF
  ne : gL ≠ gF
def CutL (w : World) (b B N : Nat) (t : Int) (s3 : List UInt8) (bad3 : Bool) (A : Option Addr) (xs : List Int) (v : Value) (wx : World) : Prop :=
  ∃ gL gF, v = .pointer (some ⟨gL, 0, none⟩) ∧ LW w b B gL gF (List.replicate N false) t s3 bad3 A xs wx
section
variable {w w4 : World} {b B N : Nat} {t : Int} {s3 : List UInt8} {bad3 : Bool} {A : Option Addr} {xs : List Int}
/-- What is known of the world behind the reading. -/
structure R4 (w : World) (b B : Nat) (s3 : List UInt8) (bad3 : Bool) (A : Option Addr) (xs : List Int) (w4 : World) : Prop where
  below : Below w.heap.size w w4
  r : Blk w4 w.heap.size 27 #[.slice none 0 0, .int .i64 0]
  rd : Rd w4 b s3 bad3
  xs : SlR w4 B A xs
  hb : w.heap.size < b
  hB : b < B
  z : B ≤ w4.heap.size
theorem slrI_keptb {W w' : World} {B b : Nat} {A : Option Addr} {l : List Int} (h : SlR W B A l) (hg : W.grownBy w' (some b)) (hB : B ≤ W.heap.size) (hne : ∀ b9 o9, A = some ⟨b9, o9, none⟩ → l ≠ [] → b9 ≠ b) : SlR w' B A l := by
  intro k x hx
  obtain ⟨b9, o9, es, e1, e2, e3, e4, e5⟩ := h k x hx
  exact ⟨b9, o9, es, e1, e2, e3, fun j u hu => (grown_cell hg b9 _ (by omega) (hne b9 o9 e1 (List.ne_nil_of_mem (List.mem_of_getElem? hx)))).trans (e4 j u hu), e5⟩
abbrev mB (N : Nat) : Array Value := ((List.replicate N false).map Value.bool).toArray
theorem bl_set {W : World} {g : Nat} {ty : TypeId} {x y u v : Value} (h : Blk W g ty #[x, y]) : Blk ((W.setCell ⟨g, 0, none⟩ u).setCell ⟨g, 1, none⟩ v) g ty #[u, v] := by
  have := (Blk.set_ h 0 u).set_ 1 v
  simpa using this
theorem f1 (h : R4 w b B s3 bad3 A xs w4) (hf : Blk w4 B 4 (mB N)) : CutL w b B N t s3 bad3 A xs (.pointer (some ⟨w4.heap.size, 0, none⟩)) (w4.alloc (Obj.cells #[.slice (some ⟨B, 0, none⟩) N N, .int .i64 t] 27)) := by
  have := hf.lt
  refine ⟨w4.heap.size, B, rfl, below_al h.below _, h.r.alloc _, Blk.alloc h.rd _, ?_, hf.alloc _, h.xs.alloc h.z _, h.hb, h.hB, h.z, Nat.le_refl _, by omega⟩
  rw [List.length_replicate]; exact Blk.new _ _ _
theorem f2 (h : R4 w b B s3 bad3 A xs w4) (hf : Blk w4 B 4 (mB N)) (hl : Blk w4 (B + 1) 27 #[.slice none 0 0, .int .i64 0]) : CutL w b B N t s3 bad3 A xs (.pointer (some ⟨B + 1, 0, none⟩)) ((w4.setCell ⟨B + 1, 0, none⟩ (.slice (some ⟨B, 0, none⟩) N N)).setCell ⟨B + 1, 1, none⟩ (.int .i64 t)) := by
  have h1 := h.hb; have h2 := h.hB; have h3 := h.below.size
  refine ⟨B + 1, B, rfl, (h.below.setCell (by simp; omega) _).setCell (by simp; omega) _, (h.r.far (by simp; omega) _).far (by simp; omega) _, Blk.far (Blk.far h.rd (by simp; omega) _) (by simp; omega) _, ?_, (hf.far (by simp) _).far (by simp) _, (h.xs.setCell (by simp) _).setCell (by simp) _, h.hb, h.hB, by omega, Nat.le_refl _, by omega⟩
  rw [List.length_replicate]; exact bl_set hl
theorem f3 (h : R4 w b B s3 bad3 A xs w4) : CutL w b B N t s3 bad3 A xs (.pointer (some ⟨w4.heap.size + 1, 0, none⟩)) ((w4.alloc (Obj.cells (mB N) 4)).alloc (Obj.cells #[.slice (some ⟨w4.heap.size, 0, none⟩) N N, .int .i64 t] 27)) := by
  have hz := h.z
  refine ⟨w4.heap.size + 1, w4.heap.size, rfl, below_al (below_al h.below _) _, (h.r.alloc _).alloc _, Blk.alloc (Blk.alloc h.rd _) _, ?_, (Blk.new _ _ _).alloc _, (h.xs.alloc h.z _).alloc (by simp; omega) _, h.hb, h.hB, by omega, h.z, by omega⟩
  rw [List.length_replicate]; exact Blk.new_at (by simp)
theorem f4 (h : R4 w b B s3 bad3 A xs w4) : CutL w b B N t s3 bad3 A xs (.pointer (some ⟨w4.heap.size, 0, none⟩)) ((w4.alloc (Obj.cells #[.slice (some ⟨w4.heap.size + 1, 0, none⟩) N N, .int .i64 t] 27)).alloc (Obj.cells (mB N) 4)) := by
  have hz := h.z
  refine ⟨w4.heap.size, w4.heap.size + 1, rfl, below_al (below_al h.below _) _, (h.r.alloc _).alloc _, Blk.alloc (Blk.alloc h.rd _) _, ?_, Blk.new_at (by simp), (h.xs.alloc h.z _).alloc (by simp; omega) _, h.hb, h.hB, h.z, by omega, by omega⟩
  rw [List.length_replicate]; exact (Blk.new _ _ _).alloc _
theorem f5 (h : R4 w b B s3 bad3 A xs w4) (hl : Blk w4 B 27 #[.slice none 0 0, .int .i64 0]) (hf : Blk w4 (B + 1) 4 (mB N)) : CutL w b B N t s3 bad3 A xs (.pointer (some ⟨B, 0, none⟩)) ((w4.setCell ⟨B, 0, none⟩ (.slice (some ⟨B + 1, 0, none⟩) N N)).setCell ⟨B, 1, none⟩ (.int .i64 t)) := by
  have h1 := h.hb; have h2 := h.hB; have h3 := h.below.size
  refine ⟨B, B + 1, rfl, (h.below.setCell (by simp; omega) _).setCell (by simp; omega) _, (h.r.far (by simp; omega) _).far (by simp; omega) _, Blk.far (Blk.far h.rd (by simp; omega) _) (by simp; omega) _, ?_, (hf.far (by simp) _).far (by simp) _, (h.xs.setCell (by simp) _).setCell (by simp) _, h.hb, h.hB, Nat.le_refl _, by omega, by omega⟩
  rw [List.length_replicate]; exact bl_set hl
theorem f6 (h : R4 w b B s3 bad3 A xs w4) (hl : Blk w4 B 27 #[.slice none 0 0, .int .i64 0]) : CutL w b B N t s3 bad3 A xs (.pointer (some ⟨B, 0, none⟩)) (((w4.setCell ⟨B, 0, none⟩ (.slice (some ⟨w4.heap.size, 0, none⟩) N N)).setCell ⟨B, 1, none⟩ (.int .i64 t)).alloc (Obj.cells (mB N) 4)) := by
  have h1 := h.hb; have h2 := h.hB; have h3 := h.below.size; have h4 := hl.lt
  refine ⟨B, w4.heap.size, rfl, below_al ((h.below.setCell (by simp; omega) _).setCell (by simp; omega) _) _, ((h.r.far (by simp; omega) _).far (by simp; omega) _).alloc _, Blk.alloc (Blk.far (Blk.far h.rd (by simp; omega) _) (by simp; omega) _) _, ?_, Blk.new_at (by simp), ((h.xs.setCell (by simp) _).setCell (by simp) _).alloc (by simp; omega) _, h.hb, h.hB, Nat.le_refl _, h.z, by omega⟩
  rw [List.length_replicate]; exact (bl_set hl).alloc _
end
theorem LW.step {w : World} {b B gL gF : Nat} {full : List Bool} {t : Int} {s3 : List UInt8} {bad3 : Bool} {A : Option Addr} {xs : List Int} {wx wy : World} (h : LW w b B gL gF full t s3 bad3 A xs wx) (hb : Below wx.heap.size wx wy) : LW w b B gL gF full t s3 bad3 A xs wy :=
  ⟨h.below.trans (hb.mono h.below.size), h.r.below hb h.r.lt, Blk.below h.rd hb h.rd.lt, h.bl.below hb h.bl.lt, h.bf.below hb h.bf.lt, h.xs.mono (Nat.le_refl _) (fun k hk => hb.block k (by have := h.bl.lt; have := h.hL; omega)), h.hb, h.hB, h.hL, h.hF, h.ne⟩
theorem LW.set {w : World} {b B gL gF : Nat} {full : List Bool} {t : Int} {s3 : List UInt8} {bad3 : Bool} {A : Option Addr} {xs : List Int} {wx : World} (h : LW w b B gL gF full t s3 bad3 A xs wx) (i : Nat) : LW w b B gL gF (full.set i true) t s3 bad3 A xs (wx.setCell ⟨gF, i, none⟩ (.bool true)) := by
  have h1 := h.hb; have h2 := h.hB; have h3 := h.hL; have h4 := h.hF; have h5 := h.ne
  refine ⟨h.below.setCell (by simp; omega) _, h.r.far (by simp; omega) _, Blk.far h.rd (by simp; omega) _, ?_, ?_, h.xs.setCell (by simp; omega) _, h1, h2, h3, h4, h5⟩
  · rw [List.length_set]; exact h.bl.far (by simpa using h5) _
  · have e : ((full.set i true).map Value.bool).toArray = (full.map Value.bool).toArray.setIfInBounds i (.bool true) := by
      rw [List.map_set, List.setIfInBounds_toArray]
    rw [e]
    exact h.bf.set_ i _
theorem inR_snoc (N : Nat) (xs : List Int) (k : Nat) (h : k < xs.length) (h1 : inR N (xs.take k) = true) (h2 : 0 ≤ xs[k] ∧ xs[k] < N) : inR N (xs.take (k + 1)) = true := by
  unfold inR at *
  rw [List.take_add_one, List.getElem?_eq_getElem h, List.all_append, h1]
  simp [h2]
theorem inR_bad (N : Nat) (xs : List Int) (k : Nat) (h : k < xs.length) (h2 : ¬ (0 ≤ xs[k] ∧ xs[k] < N)) : inR N xs = false := by
  unfold inR
  rw [List.all_eq_false]
  exact ⟨xs[k], List.getElem_mem h, by simpa using h2⟩
theorem readLay_of {s : List UInt8} {bad3 : Bool} {n N : Nat} {xs : List Int} {t : Int} {s3 : List UInt8} (hT : readT s = if bad3 = true then none else some ((n : Int), xs, t, s3)) (hN : N = min n 24) : 
    (bad3 = true ∨ s3 ≠ [] ∨ inR N xs = false ∨ rightL (fullOf N xs) t = false ∨ encLay (fullOf N xs) t ≠ s → readLay s = none) ∧ (bad3 = false → s3 = [] → inR N xs = true → rightL (fullOf N xs) t = true → encLay (fullOf N xs) t = s → readLay s = some (fullOf N xs, t)) := by
  have hm : (min (n : Int) 24).toNat = N := by omega
  unfold readLay
  rw [hT]
  cases bad3 with
  | true => simp
  | false =>
    simp only [Bool.false_eq_true, if_false, hm]
    refine ⟨fun h => ?_, fun _ h1 h2 h3 h4 => by rw [if_pos ⟨h1, h2, h3, h4⟩]⟩
    rw [if_neg]
    rintro ⟨h1, h2, h3, h4⟩
    rcases h with h | h | h | h | h
    · exact h
    · exact h h1
    · rw [h2] at h; cases h
    · rw [h3] at h; cases h
    · exact h h4
set_option maxRecDepth 100000 in
set_option maxHeartbeats 4000000 in
theorem lread_any (s : ByteArray) (w : World) (hs : s.size ≤ 20000) (he : Env w) :
    Calls Tryz.prog 7 #[.string s] w (LaRes w (readLay s.data.toList)) := by
  have hsl := hid (size_list s)
  have hl0 : s.data.toList.length ≤ 20000 := by rw [← size_list]; exact hs
  obtain ⟨n, s1, bad1, hn0, hnI, hl1, cM, r1⟩ := num_uni s.data.toList false (by omega)
  obtain ⟨xs, s2, bad2, hxI, hxn, hl2, cN, r2⟩ := nums_uni s1 bad1 (by omega) (by rcases r1 with ⟨_, rfl⟩ | ⟨_, _, rfl, _⟩ <;> simp)
  obtain ⟨t, s3, bad3, htI, hl3, cI, r3⟩ := int_uni s2 bad2 (by omega)
  have hT := hid (show readT s.data.toList = if bad3 = true then none else some (n, xs, t, s3) by
    unfold readT
    rcases r1 with ⟨h1, rfl⟩ | ⟨h1, rfl, rfl, rfl⟩
    · rcases r2 with ⟨h2, rfl⟩ | ⟨h2, rfl, rfl, rfl⟩
      · rcases r3 with ⟨h3, rfl⟩ | ⟨h3, rfl, rfl, rfl⟩
        · rw [h1]; simp [h2, h3]
        · rw [h1]; simp [h2, h3]
      · rcases r3 with ⟨h3, rfl⟩ | ⟨h3, rfl, rfl, rfl⟩
        · rw [h1]; simp [h2]
        · rw [h1]; simp [h2]
    · have e1 : bad3 = true := by
        rcases r2 with ⟨h2, rfl⟩ | ⟨h2, rfl, rfl, rfl⟩ <;> rcases r3 with ⟨h3, rfl⟩ | ⟨h3, rfl, rfl, rfl⟩ <;> rfl
      rw [h1, e1]; simp)
  clear r1 r2 r3
  obtain ⟨n, rfl⟩ := Int.eq_ofNat_of_zero_le hn0
  clear hn0
  have CM := hid cM
  have CN := hid cN
  have CI : Hid (∀ (b : Nat) (W : World), Rd W b s2 bad2 → Env W → Calls Tryz.prog 34 #[.pointer (some ⟨b, 0, none⟩)] W fun e w' => e = .returned (.int .i64 t) ∧ Rd w' b s3 bad3 ∧ W.grownBy w' (some b) ∧ ∀ g' t' cs', g' ≠ b → Blk W g' t' cs' → Blk w' g' t' cs') := hid (fun b W h1 h2 => (cI b W h1 h2).mono fun e w' ⟨h3, h4, h5⟩ => ⟨h3, h4, h5, fun g' t' cs' hne hk => hk.grown h5 (fun e => by injection e with e; exact hne e)⟩)
  clear cM cN cI
  have Hx := hid hxI
  clear hxI
  have hmin : (min (n : Int) 24) = ((min n 24 : Nat) : Int) := by omega
  have hm24 : min n 24 ≤ 24 := by omega
  obtain ⟨N, hN⟩ : ∃ N, N = min n 24 := ⟨_, rfl⟩
  rw [← hN] at hmin hm24
  have HN := hid hN
  clear hN
  have b0 := hid (Blk.new w 27 #[.slice none 0 0, .int .i64 0])
  have hb0 : Below w.heap.size w (w.alloc (Obj.cells #[.slice none 0 0, .int .i64 0] 27)) := by (repeat (first | exact Below.refl _ _ | assumption | refine below_drewN ?_ _ | refine Below.drew ?_ | refine Below.alloc ?_ (by (try simp); (try omega)) _ | refine Below.setCell ?_ (by (try simp); (try omega)) _))
  go_enter Tryz.func7, Tryz.ntmps7
  go_wp2_with fail
  refine (open_any s _).mono ?_
  rintro e w1 ⟨rfl, hR, hB⟩
  have hB1 := hid (hb0.trans (hB.mono hb0.size))
  have r1 := hid (b0.out.below hB b0.out.lt)
  have hz1 := hR.lt
  clear hB b0 hb0
  generalize hbq : (w.alloc (Obj.cells #[.slice none 0 0, .int .i64 0] 27)).heap.size = b at *
  have hwb : w.heap.size < b := by rw [← hbq]; simp
  clear hbq
  go_wp2_with fail
  refine (CM.out _ _ hR (he.below hB1.out)).mono ?_
  rintro e w2 ⟨rfl, hR2, hg⟩
  have hB2 := hid (bg hB1.out hg (by omega))
  have r2 := hid (Blk.grown r1.out hg (fun e => by injection e with e; omega))
  have hz2 := hR2.lt
  clear hR hB1 hg CM hz1 r1
  go_wp2_with fail
  refine (CN.out _ w _ hR2 he (by omega) hB2.out).mono ?_
  rintro e w3 ⟨A, c, rfl, hAc, hcm, hown, hsx, hR3, hg⟩
  have hB3 := bg hB2.out hg (by omega)
  have r3 := hid (Blk.grown r2.out hg (fun e => by injection e with e; omega))
  have hz3 := hR3.lt
  have hsb := hid (show ∀ b9 o9, A = some ⟨b9, o9, none⟩ → xs ≠ [] → b9 ≠ b by
    intro b9 o9 e1 hne e2
    subst e1 e2
    rcases hown.2 with ⟨hv, _⟩ | ⟨g, cap, cur, hv, hgb, _⟩
    · cases hv
    · simp only [Value.slice.injEq, Option.some.injEq, Addr.mk.injEq] at hv
      omega)
  clear hR2 hB2 hg CN hz2 r2 hown
  go_upto_region 4 with fail
  go_cut [7] (fun v wx => CutL w b w3.heap.size N t s3 bad3 A xs v wx)
  case first =>
    obtain ⟨i0, hi, hz0, hz1, hz2⟩ := info_parts infoBool
    have hmk := fun W => run_make_rowN (P := Tryz.prog) 25 4 i0 _ Tryz.underlying25 hi hz0 .i64 .i64 N N (Nat.le_refl _) (by rw [hz2]; omega) (by omega) W
    have Hz1 := hid hz1
    clear hi hz0 hz1 hz2
    go_region_with (first
      | (go_at_call 34; (with_reducible refine (CI.out _ _ ?_ ?_).mono ?_); (repeat (first | exact hR3 | refine Blk.drew ?_ | refine Blk.alloc ?_ _)); (refine he.below ?_; (repeat (first | assumption | refine Below.drew ?_ | refine below_al ?_ _))); rintro e w4 ⟨rfl, hR4, hg4, k4⟩; have qa := k4 w3.heap.size 27 #[.slice none 0 0, .int .i64 0] (Nat.ne_of_gt hz3); (first | (replace qa := qa (Blk.drew (Blk.new_at rfl))) | (replace qa := qa (Blk.drew (Blk.alloc (Blk.new_at rfl) _))) | skip); have qb := k4 (w3.heap.size + 1) 27 #[.slice none 0 0, .int .i64 0] (Nat.ne_of_gt (Nat.lt_succ_of_lt hz3)); (first | (replace qb := qb (Blk.drew (blk_new2 _ _ _ _))) | skip); (try (have qa0 := qa.cell 0; have qa1 := qa.cell 1; have qaf0 := qa.frozen 0; have qaf1 := qa.frozen 1; have qal := qa.lt; simp at qa0 qa1)); have qc := k4 w3.heap.size 4 (madeCells #[.bool false] (N * i0.size)) (Nat.ne_of_gt hz3); (first | (replace qc := qc (Blk.drew (Blk.new_at rfl))) | (replace qc := qc (Blk.drew (Blk.alloc (Blk.new_at rfl) _))) | skip); have qd := k4 (w3.heap.size + 1) 4 (madeCells #[.bool false] (N * i0.size)) (Nat.ne_of_gt (Nat.lt_succ_of_lt hz3)); (first | (replace qd := qd (Blk.drew (blk_new2 _ _ _ _))) | skip); (try (have qb0 := qb.cell 0; have qb1 := qb.cell 1; have qbf0 := qb.frozen 0; have qbf1 := qb.frozen 1; have qbl := qb.lt; simp at qb0 qb1))))
    all_goals
      go_wp2_with fail
      go_meet
      have hg := bg (w0 := w) (b := b) ?hbel hg4 (by omega)
      case hbel => (repeat (first | assumption | refine Below.drew ?_ | refine below_al ?_ _))
      have h4 : R4 w b w3.heap.size s3 bad3 A xs w4 := by
        refine ⟨hg, k4 _ _ _ (by omega) ?_, hR4, ?_, hwb, hz3, ?_⟩
        · (repeat (first | exact r3.out | refine Blk.drew ?_ | refine Blk.alloc ?_ _))
        · refine slrI_keptb ?_ hg4 ?_ hsb.out
          · (repeat (first | exact hsx | refine SlR.drew ?_ | refine SlR.alloc ?_ (by (try simp); (try omega)) _))
          · first | exact Nat.le_refl _ | (simp; done) | (simp; omega)
        · have := hg4.size; simp at this; omega
      rw [Hz1.out, Nat.mul_one, madeBools] at *
      first
        | exact f1 h4 qc
        | exact f2 h4 qc qb
        | exact f3 h4
        | exact f4 h4
        | exact f5 h4 qa qd
        | exact f6 h4 qa
  case rest =>
    obtain ⟨gL, gF, rfl, hW⟩ := hcut
    have HR := hid (readLay_of hT.out HN.out)
    have hxl : xs.length ≤ 20000 := by omega
    clear hsx hsb r3 hR3 hB3 hz3 CI hT HN hmin
    go_wp2_with fail
    go_loopw [24] (fun i wr => ∃ k : Nat, k ≤ xs.length ∧ i = .int .i64 k ∧ LW w b w3.heap.size gL gF (fullOf N (xs.take k)) t s3 bad3 A xs wr ∧ Hid (inR N (xs.take k) = true)) (fun i _ => xs.length - (intOf i).toNat)
    case atStart => exact ⟨0, by omega, rfl, hW, by simp [Hid, inR]⟩
    case round =>
      clear hW
      obtain ⟨k, hk, rfl, hW, hin⟩ := hrel
      have hfl := fullOf_len N (xs.take k)
      have l0 := hW.bl.cell 0; have l1 := hW.bl.cell 1
      have r0 := hW.r.cell 0; have r1 := hW.r.cell 1
      have fr0 := hW.r.frozen 0; have fr1 := hW.r.frozen 1
      rw [hfl] at l0
      simp at l0 l1 r0 r1
      have lR := hW.r.lt; have lL := hW.bl.lt
      have Hfl := hid hfl
      clear hfl
      by_cases hlt : k < xs.length
      · obtain ⟨b9, o9, rfl, _, g1, hi⟩ := hW.xs.int hlt
        have hsn := hid (fullOf_snoc N xs k hlt)
        have his := hid (inR_snoc N xs k hlt hin.out)
        have hib := hid (inR_bad N xs k hlt)
        have hlt' : (k : Int) < xs.length := by omega
        generalize xs[k] = x at *
        by_cases hx0 : x < 0
        · have hr := hid (HR.out.1 (.inr (.inr (.inl (hib.out (by omega))))))
          have HW := hid hW
          clear hW
          go_wp2_with fail
          refine bodyPost_ret (v := .tuple #[.agg #[.slice none 0 0, .int .i64 0], .bool false]) (by simp [results, Tryz.results7, go_sem, r0, r1, fr0, fr1, lR]) rfl (laRes_none hr.out rfl ?_)
          exact (HW.out.below.setCell (Nat.le_refl _) _).setCell (Nat.le_refl _) _
        · obtain ⟨m, rfl⟩ := Int.eq_ofNat_of_zero_le (show 0 ≤ x by omega)
          by_cases hxN : m < N
          · have hst := hid (his.out ⟨by omega, by omega⟩)
            have hcf := hW.bf.cell m
            have hff := hW.bf.frozen m
            have hlF := hW.bf.lt
            have hmf : m < (fullOf N (xs.take k)).length := by rw [Hfl.out]; exact hxN
            rw [List.getElem?_toArray, List.getElem?_map, List.getElem?_eq_getElem hmf] at hcf
            simp only [Option.map_some] at hcf
            have hne := hid hW.ne
            have HW := hid hW
            generalize (fullOf N (List.take k xs))[m] = y at hcf
            clear hW hmf
            go_wp2_with fail
            go_roundw
            case rel => exact ⟨k + 1, by omega, by go_num, by rw [hsn.out]; exact HW.out.set m, hst⟩
            case measure => simp [intOf]; omega
          · have hr := hid (HR.out.1 (.inr (.inr (.inl (hib.out (by omega))))))
            have HW := hid hW
            clear hW
            have hxN' : (N : Int) ≤ m := by omega
            go_wp2_with fail
            refine bodyPost_ret (v := .tuple #[.agg #[.slice none 0 0, .int .i64 0], .bool false]) (by simp [results, Tryz.results7, go_sem, r0, r1, fr0, fr1, lR]) rfl (laRes_none hr.out rfl ?_)
            exact (HW.out.below.setCell (Nat.le_refl _) _).setCell (Nat.le_refl _) _
      · obtain rfl : k = xs.length := by omega
        rw [List.take_length] at hW hin Hfl
        obtain ⟨full, hfull⟩ : ∃ f, f = fullOf N xs := ⟨_, rfl⟩
        rw [← hfull] at hW Hfl HR
        have HW := hid hW
        have hrd := hW.rd
        clear hW hfull
        have hd := done_any b s3 bad3 wr hrd
        clear hrd
        cases hdn : (!bad3 && s3.isEmpty) with
        | false =>
          have hr := hid (HR.out.1 (by
            cases bad3 with
            | true => exact .inl rfl
            | false => exact .inr (.inl (by intro h; subst h; simp at hdn))))
          rw [hdn] at hd
          have Hd := hid hd
          clear hd hdn
          go_wp2_with fail
          refine Hd.out.mono ?_
          rintro e w5 ⟨rfl, hB⟩
          have hW5 := hid (HW.out.step hB)
          clear l0 l1 r0 r1 fr0 fr1 lR lL HW
          have r0 := hW5.out.r.cell 0; have r1 := hW5.out.r.cell 1
          have fr0 := hW5.out.r.frozen 0; have fr1 := hW5.out.r.frozen 1
          have lR := hW5.out.r.lt
          simp at r0 r1
          go_wp2_with fail
          refine bodyPost_ret (v := .tuple #[.agg #[.slice none 0 0, .int .i64 0], .bool false]) (by simp [results, Tryz.results7, go_sem, r0, r1, fr0, fr1, lR]) rfl (laRes_none hr.out rfl ?_)
          exact (hW5.out.below.setCell (Nat.le_refl _) _).setCell (Nat.le_refl _) _
        | true =>
          have hb3 : bad3 = false := by cases bad3 <;> simp_all
          have hs3 : s3 = [] := by cases s3 <;> simp_all
          rw [hdn] at hd
          have Hd := hid hd
          have Hb3 := hid hb3
          have Hs3 := hid hs3
          clear hd hdn hb3 hs3
          have hfN : full.length ≤ maxLen := by rw [Hfl.out]; unfold maxLen; omega
          have HfN := hid hfN
          clear hfN
          go_wp2_with fail
          refine Hd.out.mono ?_
          rintro e w5 ⟨rfl, hB⟩
          have hW5 := hid (HW.out.step hB)
          clear l0 l1 r0 r1 fr0 fr1 lR lL HW hB
          have l0 := hW5.out.bl.cell 0; have l1 := hW5.out.bl.cell 1
          rw [Hfl.out] at l0
          simp at l0 l1
          have lL := hW5.out.bl.lt
          go_wp2_with fail
          have hR9 := hid (right_any (some ⟨gF, 0, none⟩) N full t w5 HfN.out (Blk.bools hW5.out.bf hW5.out.bf.lt))
          rw [Hfl.out] at hR9
          refine hR9.out.mono ?_
          cases hrt : rightL full t with
          | false =>
            have hr := hid (HR.out.1 (.inr (.inr (.inr (.inl hrt)))))
            clear hrt
            rintro e w6 ⟨rfl, hB⟩
            have hW6 := hid (hW5.out.step hB)
            clear l0 l1 lL hW5 hB hR9
            have r0 := hW6.out.r.cell 0; have r1 := hW6.out.r.cell 1
            have fr0 := hW6.out.r.frozen 0; have fr1 := hW6.out.r.frozen 1
            have lR := hW6.out.r.lt
            simp at r0 r1
            go_wp2_with fail
            refine bodyPost_ret (v := .tuple #[.agg #[.slice none 0 0, .int .i64 0], .bool false]) (by simp [results, Tryz.results7, go_sem, r0, r1, fr0, fr1, lR]) rfl (laRes_none hr.out rfl ?_)
            exact (hW6.out.below.setCell (Nat.le_refl _) _).setCell (Nat.le_refl _) _
          | true =>
            have Hrt := hid hrt
            clear hrt
            rintro e w6 ⟨rfl, hB⟩
            have hW6 := hid (hW5.out.step hB)
            clear l0 l1 lL hW5 hB hR9
            have l0 := hW6.out.bl.cell 0; have l1 := hW6.out.bl.cell 1
            rw [Hfl.out] at l0
            simp at l0 l1
            have lL := hW6.out.bl.lt
            go_wp2_with fail
            have hBy := hid (lbytes_any (some ⟨gF, 0, none⟩) N full t w6 (by rw [Hfl.out]; exact hm24) (Blk.bools hW6.out.bf hW6.out.bf.lt) htI (he.below hW6.out.below))
            rw [Hfl.out] at hBy
            refine hBy.out.mono ?_
            rintro e w7 ⟨rfl, hB⟩
            have hW7 := hid (hW6.out.step hB)
            clear l0 l1 lL hW6 hB hBy
            have l0 := hW7.out.bl.cell 0; have l1 := hW7.out.bl.cell 1
            rw [Hfl.out] at l0
            have r0 := hW7.out.r.cell 0; have r1 := hW7.out.r.cell 1
            have fr0 := hW7.out.r.frozen 0; have fr1 := hW7.out.r.frozen 1
            have lR := hW7.out.r.lt; have lL := hW7.out.bl.lt
            simp at l0 l1 r0 r1
            by_cases heq : encLay full t = s.data.toList
            · have hr := hid (HR.out.2 Hb3.out Hs3.out (by have := hin.out; exact this) Hrt.out heq)
              have hc : ((bs (encLay full t)).toList == s.toList) = true := by rw [heq, bs_of]; simp
              have hc2 : ((bs (encLay full t)).toList != s.toList) = false := by rw [heq, bs_of]; simp
              clear heq
              go_wp2_with fail
              refine bodyPost_ret (v := .tuple #[.agg #[.slice (some ⟨gF, 0, none⟩) N N, .int .i64 t], .bool true]) (by simp [results, Tryz.results7, go_sem, r0, r1, fr0, fr1, lR]) rfl ?_
              rw [hr.out]
              refine ⟨gF, by rw [Hfl.out], ?_, (hW7.out.below.setCell (Nat.le_refl _) _).setCell (Nat.le_refl _) _⟩
              have h7 := hW7.out
              have hne : gF ≠ w.heap.size := by have := h7.hb; have := h7.hB; have := h7.hF; omega
              exact Blk.bools ((h7.bf.far (by simpa using hne) _).far (by simpa using hne) _) (by simpa using h7.bf.lt)
            · have hr := hid (HR.out.1 (.inr (.inr (.inr (.inr heq)))))
              have hne : (bs (encLay full t)).toList ≠ s.toList := by
                intro h
                have h2 : bs (encLay full t) = s := by
                  have e : ∀ z : ByteArray, z.toList = z.data.toList := fun z => by rw [← bs_of z, bs_list]; simp [bs]
                  rw [e, e] at h
                  rw [← bs_of s, ← h]; simp [bs]
                exact heq (by rw [← h2]; simp [bs])
              have hc : ((bs (encLay full t)).toList == s.toList) = false := by simpa using hne
              have hc2 : ((bs (encLay full t)).toList != s.toList) = true := by simpa using hne
              clear heq hne
              go_wp2_with fail
              refine bodyPost_ret (v := .tuple #[.agg #[.slice none 0 0, .int .i64 0], .bool false]) (by simp [results, Tryz.results7, go_sem, r0, r1, fr0, fr1, lR]) rfl (laRes_none hr.out rfl ?_)
              exact (hW7.out.below.setCell (Nat.le_refl _) _).setCell (Nat.le_refl _) _
end Go.Proofs.YtgbgcmhmlnmklaaGreatDoor
