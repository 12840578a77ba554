
/- Robots: the reference's Next, Hear, Did (chapter 22). -/
import Derived.Test.YtnnephifjikkdaaGreatDoorRobWa
import Derived.Test.YtnnephifjikkdaaGreatDoorRobG
import Derived.Test.YtnnephifjikkdaaGreatDoorRobH
import Derived.Deep.AppendLies
import Derived.Deep.RegionWith
import Derived.Deep.RegionLaw
set_option linter.unusedSimpArgs false
set_option linter.unusedVariables false
namespace Go.Proofs.YtnnephifjikkdaaGreatDoor
open Go.RowKit Go.IntWalk

set_option maxRecDepth 100000 in
set_option maxHeartbeats 1000000 in
theorem rfnextM_any (c0 : Int) (Aq : Option Addr) (cq : Nat) (q : List Int) (w : World) (hql : q.length ≤ maxLen) (hq : SlR w w.heap.size Aq q) :
    Calls Tryz.prog 44 #[.agg #[.int .i64 c0, .slice Aq q.length cq]] w fun e w' => e = .returned (.int .i64 (q.headD 0)) ∧ Below w.heap.size w w' := by
  unfold maxLen at hql
  have hb0 : Below w.heap.size w (w.alloc (Obj.cells #[.int .i64 c0, .slice Aq q.length cq] 48)) := by (repeat (first | exact Below.refl _ _ | assumption | refine below_drewN ?_ _ | refine Below.drew ?_ | refine Below.alloc ?_ (by (try simp); (try omega)) _ | refine Below.setCell ?_ (by (try simp); (try omega)) _))
  cases q with
  | nil =>
    simp only [List.length_nil] at *
    go_enter Tryz.func44, Tryz.ntmps44
    go_wp2_with fail
    go_ret
    exact ⟨rfl, hb0⟩
  | cons x q =>
    obtain ⟨b, off, rfl, hb, g1, _⟩ := (hq.below hb0).int (k := 0) (by simp)
    have e1 : (((q.length + 1 : Nat):Int) == 0) = false := by simp; omega
    have i1 : (0:Int) < (q.length + 1 : Nat) := by omega
    simp only [List.length_cons, List.getElem_cons_zero, Nat.add_zero] at *
    go_enter Tryz.func44, Tryz.ntmps44
    go_wp2_with fail
    go_ret
    exact ⟨rfl, hb0⟩
/-- A result: a mind, and a number; its queue may be another's. -/
def RetHr (w : World) (r : (Int × List Int) × Int) (e : Ending) (w' : World) : Prop := ∃ A cq, e = .returned (.tuple #[.agg #[.int .i64 r.1.1, .slice A r.1.2.length cq], .int .i64 r.2]) ∧ SlR w' w'.heap.size A r.1.2 ∧ Below w.heap.size w w'
theorem retHr_of {w w' : World} {r : (Int × List Int) × Int} {e : Ending} {c n : Int} {q : List Int} {A : Option Addr} {cq : Nat} (hr : r = ((c, q), n)) (he : e = .returned (.tuple #[.agg #[.int .i64 c, .slice A q.length cq], .int .i64 n])) (h3 : SlR w' w'.heap.size A q) (h4 : Below w.heap.size w w') : RetHr w r e w' := by
  subst hr; exact ⟨A, cq, he, h3, h4⟩
theorem step_appI {ops : Array Oper} {o : Oper} {a : Go.Act} {K : Go.Act → World → Prop} {Q : Exit → Go.Act → World → Prop} {E : Prop} (w : World) (hgd : o.guard = none) (s x : Operand)
    (ho : o.op = .call { callee := .builtin .append, args := #[s, x], argTypes := #[22, 22] })
    (base : Nat) (v : Value) (l : List Int) (hs : a.eval s = v) (hown : OwnI w base v l) (ad : Addr) (c : Nat) (ys : List Int) (hx : a.eval x = .slice (some ad) ys.length c)
    (hcell : ∀ (j : Nat) (u : Value), (ys.map (Value.int .i64))[j]? = some u → w.cell? (ad.add j) = some u) (hpos : 0 < ys.length) (hlen : l.length + ys.length ≤ 1000000) (hbase : base ≤ w.heap.size)
    (h : ∀ g cap w', OwnI w' base (.slice (some ⟨g, 0, none⟩) (l.length + ys.length) cap) (l ++ ys) → w.grownBy w' v.ownBlock → (v.ownBlock = some g ∨ g = w.heap.size) → g < w'.heap.size → K (a.put o.dst (.slice (some ⟨g, 0, none⟩) (l.length + ys.length) cap)) w') :
    if Region.wanted o (yielded ops a.tmps) = true then Oper.wp Tryz.prog o a w K Q else E := by
  obtain ⟨i0, hi, hz0, hz1, hz2⟩ := info_parts infoInt
  refine step_append_lies w hgd s x 22 ho base 3 i0 _ 1 8 Tryz.underlying22 hi hz0 hz1 hz2 rfl (by omega) v l.length _ hs hown ad ys.length c (ys.map (Value.int .i64)) hx (by simp) hcell ?_ hpos (by unfold maxLen; omega) (by omega) hbase _ rfl ?_
  · intro u hu
    obtain ⟨y, _, rfl⟩ := List.mem_map.1 hu
    simp [Value.oneCell']
  · intro g cap w' h1 h2 h3 h4
    refine h g cap w' ?_ h2 h3 h4
    unfold OwnI
    rw [List.length_append, List.map_append]
    exact h1
theorem ownE {W : World} {base g : Nat} (h : Blk W g 3 #[]) (hb : base ≤ g) : OwnI W base (.slice (some ⟨g, 0, none⟩) 0 0) [] := by
  have := OwnI.fresh (base := base) (l := []) (w := W) (by simpa using h) hb (by simp [maxLen])
  simpa using this
/-- The world behind the reference's 'next := ..'. -/
def HrW (W H D : Int) (Ak Ao : Option Addr) (ck co : Nat) (kind out : List Int) (c0 : Int) (Aq : Option Addr) (cq : Nat) (q acts : List Int) (w : World) (s : Value) (wx : World) : Prop :=
  ∃ b A' c', s = .pointer (some ⟨b, 0, none⟩) ∧ Below w.heap.size w wx ∧ Blk wx w.heap.size 24 #[.int .i64 W, .int .i64 H, .int .i64 D, .slice Ak kind.length ck, .slice Ao out.length co] ∧ Blk wx (w.heap.size + 1) 48 #[.int .i64 c0, .slice Aq q.length cq] ∧ Blk wx (w.heap.size + 1 + 1) 48 #[.int .i64 0, .slice none 0 0] ∧ Blk wx b 48 #[.int .i64 c0, .slice A' acts.length c'] ∧ w.heap.size + 1 + 1 < b ∧ SlR wx wx.heap.size A' acts
/-- The three boxes of the reference's Hear and Did. -/
structure HS (w : World) (F M : Array Value) (wx : World) : Prop where
  below : Below w.heap.size w wx
  f : Blk wx w.heap.size 24 F
  m : Blk wx (w.heap.size + 1) 48 M
  r : Blk wx (w.heap.size + 1 + 1) 48 #[.int .i64 0, .slice none 0 0]
section
variable {w wx wy : World} {F M : Array Value}
theorem HS.step (h : HS w F M wx) (hb : Below wx.heap.size wx wy) : HS w F M wy := ⟨h.below.trans (hb.mono h.below.size), h.f.below hb h.f.lt, h.m.below hb h.m.lt, h.r.below hb h.r.lt⟩
theorem HS.alloc (h : HS w F M wx) (o : Obj) : HS w F M (wx.alloc o) := h.step (by (repeat (first | exact Below.refl _ _ | assumption | refine below_drewN ?_ _ | refine Below.drew ?_ | refine Below.alloc ?_ (by (try simp); (try omega)) _ | refine Below.setCell ?_ (by (try simp); (try omega)) _)))
theorem HS.drew (h : HS w F M wx) : HS w F M wx.drew := h.step (by (repeat (first | exact Below.refl _ _ | assumption | refine below_drewN ?_ _ | refine Below.drew ?_ | refine Below.alloc ?_ (by (try simp); (try omega)) _ | refine Below.setCell ?_ (by (try simp); (try omega)) _)))
theorem HS.size (h : HS w F M wx) : w.heap.size + 1 + 1 + 1 ≤ wx.heap.size := h.r.lt
theorem HS.grown (h : HS w F M wx) {g : Nat} (hg : wx.grownBy wy (some g)) (hb : w.heap.size + 1 + 1 < g) : HS w F M wy :=
  ⟨h.below.grown hg h.below.size (fun k e => by injection e with e; omega), h.f.grown hg (fun e => by injection e with e; omega), h.m.grown hg (fun e => by injection e with e; omega), h.r.grown hg (fun e => by injection e with e; omega)⟩
theorem HS.far (h : HS w F M wx) {g : Nat} (hb : w.heap.size + 1 + 1 < g) (i : Nat) (u : Value) : HS w F M (wx.setCell ⟨g, i, none⟩ u) :=
  ⟨h.below.setCell (by simp; omega) _, h.f.far (by simp; omega) _, h.m.far (by simp; omega) _, h.r.far (by simp; omega) _⟩
end
/-- What 'next := api.Mind{..}' leaves. -/
def HrX (w : World) (F M : Array Value) (c0 : Int) (acts : List Int) (s : Value) (wx : World) : Prop :=
  ∃ b A' c', s = .pointer (some ⟨b, 0, none⟩) ∧ HS w F M wx ∧ Blk wx b 48 #[.int .i64 c0, .slice A' acts.length c'] ∧ w.heap.size + 1 + 1 < b ∧ SlR wx wx.heap.size A' acts ∧ (acts ≠ [] → ∀ a, A' = some a → a.block ≠ w.heap.size + 1 + 1 ∧ a.block ≠ b)
theorem hrX_a {w w8 : World} {F M : Array Value} {c0 : Int} {acts : List Int} {A' : Option Addr} {c' : Nat} (h : HS w F M w8) (hs : SlR w8 w8.heap.size A' acts) (hx : acts ≠ [] → ∀ a, A' = some a → a.block ≠ w.heap.size + 1 + 1 ∧ a.block ≠ w8.heap.size) :
    HrX w F M c0 acts (.pointer (some ⟨w8.heap.size, 0, none⟩)) (w8.alloc (Obj.cells #[.int .i64 c0, .slice A' acts.length c'] 48)) :=
  ⟨w8.heap.size, A', c', rfl, h.alloc _, Blk.new _ _ _, by have := h.size; omega, (hs.alloc (Nat.le_refl _) _).more (by simp), hx⟩
theorem hrX_b {w w8 : World} {F M : Array Value} {c0 : Int} {acts : List Int} {A' : Option Addr} {c' b : Nat} {x y : Value} (h : HS w F M w8) (hs : SlR w8 w8.heap.size A' acts) (hA : ∀ a, A' = some a → a.block ≠ b) (hx : acts ≠ [] → ∀ a, A' = some a → a.block ≠ w.heap.size + 1 + 1 ∧ a.block ≠ b) (hb : w.heap.size + 1 + 1 < b) (hB : Blk w8 b 48 #[x, y]) :
    HrX w F M c0 acts (.pointer (some ⟨b, 0, none⟩)) ((w8.setCell ⟨b, 0, none⟩ (.int .i64 c0)).setCell ⟨b, 1, none⟩ (.slice A' acts.length c')) :=
  ⟨b, A', c', rfl, (h.far hb _ _).far hb _ _, by simpa using (Blk.set_ hB 0 (.int .i64 c0)).set_ 1 (.slice A' acts.length c'), hb, by
    have := (hs.far (p := ⟨b, 0, none⟩) hA (.int .i64 c0)).far (p := ⟨b, 1, none⟩) hA (.slice A' acts.length c')
    simpa using this, hx⟩
theorem ne9a (n : Nat) : some n ≠ some (n + 1) := by simp
theorem ne9b (n : Nat) : some (n + 1) ≠ some n := by simp
/-- Both ends at once. -/
theorem hrX_own {w w8 : World} {F M : Array Value} {c0 : Int} {acts : List Int} {base g c' : Nat} (h : HS w F M w8) (hbs : w.heap.size + 1 + 1 < base) (ho : OwnI w8 base (.slice (some ⟨g, 0, none⟩) (([] : List Int).length + acts.length) c') ([] ++ acts)) (hi : ∀ x ∈ acts, I64 x) :
    HrX w F M c0 acts (.pointer (some ⟨w8.heap.size, 0, none⟩)) (w8.alloc (Obj.cells #[.int .i64 c0, .slice (some ⟨g, 0, none⟩) acts.length c'] 48)) := by
  simp only [List.length_nil, Nat.zero_add, List.nil_append] at ho
  have hF := ho.fresh_at
  obtain ⟨A9, c9, h9, _, _, hs⟩ := ho.slr hi
  simp only [Value.slice.injEq] at h9
  obtain ⟨rfl, _, rfl⟩ := h9
  exact hrX_a h hs (fun _ a ha => ⟨by have := hF a ha; omega, by have := (World.ownsRow.lt ho g rfl).2; injection ha with ha; subst ha; simp; omega⟩)
theorem hrX_box {w w8 : World} {F M : Array Value} {c0 : Int} {acts : List Int} {base g c' b : Nat} {x y : Value} (h : HS w F M w8) (hbs : w.heap.size + 1 + 1 < base) (ho : OwnI w8 base (.slice (some ⟨g, 0, none⟩) (([] : List Int).length + acts.length) c') ([] ++ acts)) (hi : ∀ x ∈ acts, I64 x) (hb : w.heap.size + 1 + 1 < b) (hB : Blk w8 b 48 #[x, y]) :
    HrX w F M c0 acts (.pointer (some ⟨b, 0, none⟩)) ((w8.setCell ⟨b, 0, none⟩ (.int .i64 c0)).setCell ⟨b, 1, none⟩ (.slice (some ⟨g, 0, none⟩) acts.length c')) := by
  simp only [List.length_nil, Nat.zero_add, List.nil_append] at ho
  have hne := own_ne ho hB (by decide)
  have hF := ho.fresh_at
  obtain ⟨A9, c9, h9, _, _, hs⟩ := ho.slr hi
  simp only [Value.slice.injEq] at h9
  obtain ⟨rfl, _, rfl⟩ := h9
  exact hrX_b h hs (fun a ha e => hne (by injection ha with ha; subst ha; exact congrArg some e.symm)) (fun _ a ha => ⟨by have := hF a ha; omega, fun e => hne (by injection ha with ha; subst ha; exact congrArg some e.symm)⟩) hb hB
/-- An empty slice in a box. -/
theorem hrX_none {w w8 : World} {F M : Array Value} {c0 : Int} {b : Nat} {A' : Option Addr} {c' : Nat} (h : HS w F M w8) (hb : w.heap.size + 1 + 1 < b) (hB : Blk w8 b 48 #[.int .i64 c0, .slice A' 0 c']) :
    HrX w F M c0 [] (.pointer (some ⟨b, 0, none⟩)) w8 := ⟨b, A', c', rfl, h, hB, hb, fun k x hx => by simp at hx, fun h => absurd rfl h⟩
theorem run_appE (w : World) (ty : TypeId) (ad : Addr) (A : Option Addr) (c : Nat) : (Builtin.append_ #[22, 22] ty #[.slice (some ad) 0 0, .slice A 0 c]).run Tryz.prog w = .ok (.slice (some ad) 0 0) w := by
  obtain ⟨i0, hi, hz0, hz1, hz2⟩ := info_parts infoInt
  have ht := Tryz.underlying22
  cases A <;> simp [Builtin.append_, run_underlying ht, sizeOf, typeInfo, hi, storeCells, loadCells, Builtin.lenOf, Builtin.firstCells, go_sem]
theorem step_appE {ops : Array Oper} {o : Oper} {a : Go.Act} {K : Go.Act → World → Prop} {Q : Exit → Go.Act → World → Prop} {E : Prop} (w : World) (hgd : o.guard = none) (s x : Operand)
    (ho : o.op = .call { callee := .builtin .append, args := #[s, x], argTypes := #[22, 22] })
    (ad : Addr) (A : Option Addr) (c : Nat) (hs : a.eval s = .slice (some ad) 0 0) (hx : a.eval x = .slice A 0 c) (h : K (a.put o.dst (.slice (some ad) 0 0)) w) :
    if Region.wanted o (yielded ops a.tmps) = true then Oper.wp Tryz.prog o a w K Q else E := by
  have hw : Region.wanted o (yielded ops a.tmps) = true := by simp [Region.wanted, hgd]
  rw [if_pos hw]
  unfold Oper.wp execOp
  simp only [ho, resolve, invoke, builtin, Sem.run_bind, Sem.run_pure, Result.andThen_ok, List.map_toArray, List.map_cons, List.map_nil, hs, hx, run_appE]
  exact h
end Go.Proofs.YtnnephifjikkdaaGreatDoor
