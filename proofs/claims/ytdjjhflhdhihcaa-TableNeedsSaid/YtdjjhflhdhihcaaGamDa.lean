
/- Game: appends onto the solver's rows. -/
import Derived.Test.YtdjjhflhdhihcaaGamC
import Derived.Deep.RegionLaw
import Derived.Deep.RegionHeldLaw
import Derived.Deep.CutRange
import Derived.Deep.CutBlock
set_option linter.unusedSimpArgs false
set_option linter.unusedVariables false
namespace Go.Proofs.Ytdjjhflhdhihcaa
open Go.RowKit Go.IntWalk

/-- append of one number whose cell is known: what the builtin does. -/
theorem run_appJ (W : World) (ty : TypeId) (base : Nat) (v : Value) (l : List Int) (hown : OwnI W base v l) (B c : Nat) (y : Int) (hb : W.cell? ⟨B, 0, none⟩ = some (.int .i64 y)) (hlen : l.length ≤ 10000000) (hbase : base ≤ W.heap.size) :
    ∃ g cap w', (Builtin.append_ #[34, 34] ty #[v, .slice (some ⟨B, 0, none⟩) 1 c]).run Try.prog W = .ok (.slice (some ⟨g, 0, none⟩) (l.length + 1) cap) w' ∧
      OwnI w' base (.slice (some ⟨g, 0, none⟩) (l.length + 1) cap) (l ++ [y]) ∧ W.grownBy w' v.ownBlock ∧ ((Value.slice (some ⟨g, 0, none⟩) (l.length + 1) cap).ownBlock = v.ownBlock ∨ (Value.slice (some ⟨g, 0, none⟩) (l.length + 1) cap).ownBlock = some W.heap.size) := by
  obtain ⟨i0, hi, hz0, hz1, hz2⟩ := info_parts infoInt
  obtain ⟨g, cap, w', h1, h2, h3, h4, _⟩ := Go.run_append_lies (P := Try.prog) W 34 ty base 3 i0 _ 1 8 Try.underlying34 hi hz0 hz1 hz2 rfl (by omega) v l.length _ hown ⟨B, 0, none⟩ 1 c [.int .i64 y] rfl
    (fun j u hu => by
      match j, hu with
      | 0, hu => simp only [List.getElem?_cons_zero, Option.some.injEq] at hu; subst hu; exact hb
      | j + 1, hu => simp at hu) (by simp [Value.oneCell']) (by omega) (by unfold maxLen; omega) (by omega) hbase _ rfl
  refine ⟨g, cap, w', h1, ?_, h3, ?_⟩
  · unfold OwnI
    rw [List.length_append, List.map_append]
    exact h2
  · rcases h4 with h4 | h4
    · exact .inl h4.symm
    · exact .inr (by rw [h4]; rfl)
section
variable {ops : Array Oper} {rest : List Oper} {o : Oper} {a : Act} {Q : Exit → Act → World → Prop}
theorem wp_appJ (w : World) (hgd : o.guard = none) (s x : Operand) (ho : o.op = .call { callee := .builtin .append, args := #[s, x], argTypes := #[34, 34] })
    (base : Nat) (v : Value) (l : List Int) (n : Nat) (hn : l.length = n) (hs : a.eval s = v) (hown : OwnI w base v l) (B c : Nat) (y : Int) (hx : a.eval x = .slice (some ⟨B, 0, none⟩) 1 c) (hb : w.cell? ⟨B, 0, none⟩ = some (.int .i64 y)) (hlen : l.length ≤ 10000000) (hbase : base ≤ w.heap.size)
    (h : ∀ g cap w', OwnI w' base (.slice (some ⟨g, 0, none⟩) (n + 1) cap) (l ++ [y]) → w.grownBy w' v.ownBlock → ((Value.slice (some ⟨g, 0, none⟩) (n + 1) cap).ownBlock = v.ownBlock ∨ (Value.slice (some ⟨g, 0, none⟩) (n + 1) cap).ownBlock = some w.heap.size) → wpList Try.prog ops Q rest (a.put o.dst (.slice (some ⟨g, 0, none⟩) (n + 1) cap)) w') : wpList Try.prog ops Q (o :: rest) a w := by
  subst hn
  refine wp_appI w hgd s x ho base v l hs hown ⟨B, 0, none⟩ c [y] hx ?_ (by simp; omega) hbase ?_
  · intro j u hu
    match j, hu with
    | 0, hu => simp at hu; subst hu; exact hb
    | j + 1, hu => simp at hu
  · intro v' w' h1 h2 h3
    obtain ⟨A, cap, rfl, hA⟩ := h1.form
    obtain ⟨g, rfl, _⟩ := hA (by simp)
    simp only [List.length_append, List.length_cons, List.length_nil] at h1 h3 ⊢
    exact h g cap w' h1 h2 h3
end
theorem step_appJ {ops : Array Oper} {o : Oper} {a : Act} {K : Act → World → Prop} {Q : Exit → Act → World → Prop} {E : Prop} (w : World) (hgd : o.guard = none) (s x : Operand)
    (ho : o.op = .call { callee := .builtin .append, args := #[s, x], argTypes := #[34, 34] })
    (base : Nat) (v : Value) (l : List Int) (n : Nat) (hn : l.length = n) (hs : a.eval s = v) (hown : OwnI w base v l) (B c : Nat) (y : Int) (hx : a.eval x = .slice (some ⟨B, 0, none⟩) 1 c) (hb : w.cell? ⟨B, 0, none⟩ = some (.int .i64 y)) (hlen : l.length ≤ 10000000) (hbase : base ≤ w.heap.size)
    (h : ∀ g cap w', OwnI w' base (.slice (some ⟨g, 0, none⟩) (n + 1) cap) (l ++ [y]) → w.grownBy w' v.ownBlock → ((Value.slice (some ⟨g, 0, none⟩) (n + 1) cap).ownBlock = v.ownBlock ∨ (Value.slice (some ⟨g, 0, none⟩) (n + 1) cap).ownBlock = some w.heap.size) → K (a.put o.dst (.slice (some ⟨g, 0, none⟩) (n + 1) cap)) w') :
    if Region.wanted o (yielded ops a.tmps) = true then Oper.wp Try.prog o a w K Q else E := by
  subst hn
  obtain ⟨i0, hi, hz0, hz1, hz2⟩ := info_parts infoInt
  refine step_append_lies w hgd s x 34 ho base 3 i0 _ 1 8 Try.underlying34 hi hz0 hz1 hz2 rfl (by omega) v l.length _ hs hown ⟨B, 0, none⟩ 1 c [.int .i64 y] hx rfl ?_ (by simp [Value.oneCell']) (by omega) (by unfold maxLen; omega) (by omega) hbase _ rfl ?_
  · intro j u hu
    match j, hu with
    | 0, hu => simp at hu; subst hu; exact hb
    | j + 1, hu => simp at hu
  · intro g cap w' h1 h2 h3 _
    refine h g cap w' ?_ h2 (h3.elim (fun e => .inl e.symm) (fun e => .inr (by rw [e]; rfl)))
    unfold OwnI
    rw [List.length_append, List.map_append]
    exact h1
/-- One number more in the i-th row. -/
theorem Sol.push {W w' : World} {base b gi : Nat} {vg vm vR vO vL vQ : Value} {vI : List Value} {R O L Q : List Int} {I : List (List Int)} (h : Sol W base b gi vg vm vR vO vL vQ vI R O L Q I) (i : Nat) (hi : i < (vR :: vO :: vL :: vQ :: vI).length)
    (hg : W.grownBy w' ((vR :: vO :: vL :: vQ :: vI)[i]).ownBlock) :
      Blk w' b 70 #[vg, vm, vR, vO, vL, .slice (some ⟨gi, 0, none⟩) vI.length vI.length, vQ] ∧ Blk w' gi 34 vI.toArray ∧ Tch base W w' := by
  have ho := h.fam.own i hi (by rw [← h.fam.len]; exact hi)
  obtain ⟨s1, i1⟩ := h.grow hi hg
  exact ⟨s1, i1, Tch.of_own ho hg⟩
theorem Sol.pushI {W w' : World} {base b gi : Nat} {vg vm vR vO vL vQ : Value} {vI : List Value} {R O L Q : List Int} {I : List (List Int)} (h : Sol W base b gi vg vm vR vO vL vQ vI R O L Q I) {t : Nat} (ht : t < vI.length)
    (hg : W.grownBy w' vI[t].ownBlock) :
      Blk w' b 70 #[vg, vm, vR, vO, vL, .slice (some ⟨gi, 0, none⟩) vI.length vI.length, vQ] ∧ Blk w' gi 34 vI.toArray ∧ Tch base W w' := h.push (t + 4) (by simp; omega) hg
/-- Behind begin: all the words of the solver. -/
def BS (w0 wr : World) (b gi : Nat) (Ag Am : Option Addr) (cg cm : Nat) (g : Gm) (R Q : List Int) (fm : List (Nat × List Nat)) (pre : List Nat) : Prop :=
  ∃ vR vO vL vQ vI, Sol wr w0.heap.size b gi (.slice Ag g.1.length cg) (.slice Am g.2.length cm) vR vO vL vQ vI R (ownL fm) (lenL fm) Q (ilist fm pre g.1.length) ∧ Below w0.heap.size w0 wr ∧ Blk wr w0.heap.size 25 #[.slice Ag g.1.length cg, .slice Am g.2.length cm]
theorem bs_into {w W w3 : World} {b gi g7 : Nat} {Ag Am : Option Addr} {cg cm : Nat} {g : Gm} {R Q : List Int} {fm : List (Nat × List Nat)} {pre : List Nat} {vR vO vL vQ v : Value} {vI : List Value} {cs : Array Value} {t : Nat}
    (S : Sol W w.heap.size b gi (.slice Ag g.1.length cg) (.slice Am g.2.length cm) vR vO vL vQ vI R (ownL fm) (lenL fm) Q (ilist fm pre g.1.length)) (hB : Below w.heap.size w W) (hX : Blk W w.heap.size 25 #[.slice Ag g.1.length cg, .slice Am g.2.length cm])
    (hY : Blk W g7 49 cs) (ht : t < g.1.length) (hvt : t < vI.length) (hp : t ∉ pre) (hgr : W.grownBy w3 vI[t].ownBlock) (ho : OwnI w3 w.heap.size v ((ilist fm pre g.1.length)[t]'(by rw [ilist_len]; exact ht) ++ [(fm.length : Int)]))
    (hat : v.ownBlock = vI[t].ownBlock ∨ v.ownBlock = some W.heap.size) :
    BS w (w3.setCell ⟨gi, t, none⟩ v) b gi Ag Am cg cm g R Q fm (pre ++ [t]) ∧ Blk (w3.setCell ⟨gi, t, none⟩ v) g7 49 cs := by
  obtain ⟨s3, i3, T3⟩ := S.pushI hvt hgr
  have S9 := S.appI hvt hgr ho hat
  have T9 := T3.trans (Tch.of_set (j := t) i3 S.lo.2 (.inr (.inr rfl)) v)
  rw [ilist_step fm pre g.1.length t ht hp] at S9
  exact ⟨⟨_, _, _, _, _, S9, T9.below hB (Nat.le_refl _), T9.blk hX (by decide) (by decide) (by decide)⟩, T9.blk hY (by decide) (by decide) (by decide)⟩
/-- The first of two appends: of the i-th row. -/
theorem two_1 {wr W w1 : World} {base b gi : Nat} {vg vm vR vO vL vQ v : Value} {vI : List Value} {R O L Q x : List Int} {I : List (List Int)} (S : Sol wr base b gi vg vm vR vO vL vQ vI R O L Q I) (i : Nat) (hi : i < (vR :: vO :: vL :: vQ :: vI).length) (hb : Below wr.heap.size wr W)
    (hg : W.grownBy w1 ((vR :: vO :: vL :: vQ :: vI)[i]).ownBlock) (ho : OwnI w1 base v x) (hat : v.ownBlock = ((vR :: vO :: vL :: vQ :: vI)[i]).ownBlock ∨ v.ownBlock = some W.heap.size) :
    Fam w1 base ((vR :: vO :: vL :: vQ :: vI).set i v) ((R :: O :: L :: Q :: I).set i x) ∧ Blk w1 b 70 #[vg, vm, vR, vO, vL, .slice (some ⟨gi, 0, none⟩) vI.length vI.length, vQ] ∧ Blk w1 gi 34 vI.toArray ∧ Tch base wr w1 ∧ wr.heap.size ≤ w1.heap.size ∧
      ∀ k o, wr.heap.size ≤ k → k < W.heap.size → w1.cell? ⟨k, o, none⟩ = W.cell? ⟨k, o, none⟩ := by
  have S1 := S.below hb
  obtain ⟨s1, i1, T1⟩ := S1.push i hi hg
  have hlt := fun g (h : ((vR :: vO :: vL :: vQ :: vI)[i]).ownBlock = some g) => ((S.fam.own i hi (by rw [← S.fam.len]; exact hi)).lt g h).2
  refine ⟨S1.fam.turn hi hg ho hat, s1, i1, (Tch.of_below hb).trans T1, Nat.le_trans hb.size hg.size, fun k o h1 h2 => ?_⟩
  refine cell_kept (p := ⟨k, o, none⟩) (hg.block k h2 (fun e => ?_))
  have := hlt k e.symm
  omega
/-- The second of two appends, and the two stores. -/
theorem two_OL {wr w1 W w2 : World} {base b gi : Nat} {vg vm vR vO vL vQ v v' : Value} {vI : List Value} {R L Q x x' : List Int} {I : List (List Int)}
    (F : Fam w1 base (vR :: v :: vL :: vQ :: vI) (R :: x :: L :: Q :: I)) (s1 : Blk w1 b 70 #[vg, vm, vR, vO, vL, .slice (some ⟨gi, 0, none⟩) vI.length vI.length, vQ]) (i1 : Blk w1 gi 34 vI.toArray) (T1 : Tch base wr w1) (hlo : base ≤ b ∧ base ≤ gi)
    (hb : Below w1.heap.size w1 W) (hg : W.grownBy w2 vL.ownBlock) (ho : OwnI w2 base v' x') (hat : v'.ownBlock = vL.ownBlock ∨ v'.ownBlock = some W.heap.size) :
    Sol ((w2.setCell ⟨b, 3, none⟩ v).setCell ⟨b, 4, none⟩ v') base b gi vg vm vR v v' vQ vI R x x' Q I ∧ Tch base wr ((w2.setCell ⟨b, 3, none⟩ v).setCell ⟨b, 4, none⟩ v') ∧
      Blk w2 b 70 #[vg, vm, vR, vO, vL, .slice (some ⟨gi, 0, none⟩) vI.length vI.length, vQ] ∧ Tch base wr w2 := by
  have F1 := F.below hb
  have s1 := s1.below hb s1.lt
  have i1 := i1.below hb i1.lt
  have T1 := T1.trans (Tch.of_below hb)
  have o1 : OwnI W base vL L := F1.own 2 (by simp) (by simp)
  have s2 := s1.grown hg (fun e => own_blk_ne o1 s1 (by decide) e.symm)
  have i2 := i1.grown hg (fun e => own_blk_ne o1 i1 (by decide) e.symm)
  have F2 := F1.turn (i := 2) (by simp) hg ho hat
  have T2 := T1.trans (Tch.of_own o1 hg)
  have hne : b ≠ gi := Blk.ne_ s2 i2 (by decide)
  obtain ⟨f3, i3⟩ := sol_set (j := 3) (u := v) F2 s2 i2 (by decide) hne
  have s3 := s2.set_ 3 v
  obtain ⟨f4, i4⟩ := sol_set (j := 4) (u := v') f3 s3 i3 (by decide) hne
  exact ⟨⟨by simpa using s3.set_ 4 v', i4, f4, hlo⟩, (T2.trans (Tch.of_set (j := 3) s2 hlo.1 (.inr (.inl rfl)) v)).trans (Tch.of_set (j := 4) s3 hlo.1 (.inr (.inl rfl)) v'), s2, T2⟩
/-- The second of two appends, and the two stores. -/
theorem two_LO {wr w1 W w2 : World} {base b gi : Nat} {vg vm vR vO vL vQ v v' : Value} {vI : List Value} {R O Q x x' : List Int} {I : List (List Int)}
    (F : Fam w1 base (vR :: vO :: v :: vQ :: vI) (R :: O :: x :: Q :: I)) (s1 : Blk w1 b 70 #[vg, vm, vR, vO, vL, .slice (some ⟨gi, 0, none⟩) vI.length vI.length, vQ]) (i1 : Blk w1 gi 34 vI.toArray) (T1 : Tch base wr w1) (hlo : base ≤ b ∧ base ≤ gi)
    (hb : Below w1.heap.size w1 W) (hg : W.grownBy w2 vO.ownBlock) (ho : OwnI w2 base v' x') (hat : v'.ownBlock = vO.ownBlock ∨ v'.ownBlock = some W.heap.size) :
    Sol ((w2.setCell ⟨b, 3, none⟩ v').setCell ⟨b, 4, none⟩ v) base b gi vg vm vR v' v vQ vI R x' x Q I ∧ Tch base wr ((w2.setCell ⟨b, 3, none⟩ v').setCell ⟨b, 4, none⟩ v) ∧
      Blk w2 b 70 #[vg, vm, vR, vO, vL, .slice (some ⟨gi, 0, none⟩) vI.length vI.length, vQ] ∧ Tch base wr w2 := by
  have F1 := F.below hb
  have s1 := s1.below hb s1.lt
  have i1 := i1.below hb i1.lt
  have T1 := T1.trans (Tch.of_below hb)
  have o1 : OwnI W base vO O := F1.own 1 (by simp) (by simp)
  have s2 := s1.grown hg (fun e => own_blk_ne o1 s1 (by decide) e.symm)
  have i2 := i1.grown hg (fun e => own_blk_ne o1 i1 (by decide) e.symm)
  have F2 := F1.turn (i := 1) (by simp) hg ho hat
  have T2 := T1.trans (Tch.of_own o1 hg)
  have hne : b ≠ gi := Blk.ne_ s2 i2 (by decide)
  obtain ⟨f3, i3⟩ := sol_set (j := 3) (u := v') F2 s2 i2 (by decide) hne
  have s3 := s2.set_ 3 v'
  obtain ⟨f4, i4⟩ := sol_set (j := 4) (u := v) f3 s3 i3 (by decide) hne
  exact ⟨⟨by simpa using s3.set_ 4 v, i4, f4, hlo⟩, (T2.trans (Tch.of_set (j := 3) s2 hlo.1 (.inr (.inl rfl)) v')).trans (Tch.of_set (j := 4) s3 hlo.1 (.inr (.inl rfl)) v), s2, T2⟩
theorem two_O {wr W w1 : World} {base b gi g7 : Nat} {vg vm vR vO vL vQ v : Value} {vI : List Value} {R O L Q x : List Int} {I : List (List Int)} {cs : Array Value} (S : Sol wr base b gi vg vm vR vO vL vQ vI R O L Q I) (Y : Blk wr g7 49 cs) (hb : Below wr.heap.size wr W)
    (hg : W.grownBy w1 vO.ownBlock) (ho : OwnI w1 base v x) (hat : v.ownBlock = vO.ownBlock ∨ v.ownBlock = some W.heap.size) :
    (Fam w1 base (vR :: v :: vL :: vQ :: vI) (R :: x :: L :: Q :: I) ∧ Blk w1 b 70 #[vg, vm, vR, vO, vL, .slice (some ⟨gi, 0, none⟩) vI.length vI.length, vQ] ∧ Blk w1 gi 34 vI.toArray ∧ Tch base wr w1) ∧ wr.heap.size ≤ w1.heap.size ∧
      (∀ k o, wr.heap.size ≤ k → k < W.heap.size → w1.cell? ⟨k, o, none⟩ = W.cell? ⟨k, o, none⟩) ∧ OwnI w1 base vL L ∧ Blk w1 g7 49 cs := by
  obtain ⟨F, s1, i1, T, h5, h6⟩ := two_1 S 1 (by simp) hb hg ho hat
  refine ⟨⟨F, s1, i1, T⟩, h5, h6, ?_, T.blk Y (by decide) (by decide) (by decide)⟩
  exact F.own 2 (by simp) (by simp)
theorem two_L {wr W w1 : World} {base b gi g7 : Nat} {vg vm vR vO vL vQ v : Value} {vI : List Value} {R O L Q x : List Int} {I : List (List Int)} {cs : Array Value} (S : Sol wr base b gi vg vm vR vO vL vQ vI R O L Q I) (Y : Blk wr g7 49 cs) (hb : Below wr.heap.size wr W)
    (hg : W.grownBy w1 vL.ownBlock) (ho : OwnI w1 base v x) (hat : v.ownBlock = vL.ownBlock ∨ v.ownBlock = some W.heap.size) :
    (Fam w1 base (vR :: vO :: v :: vQ :: vI) (R :: O :: x :: Q :: I) ∧ Blk w1 b 70 #[vg, vm, vR, vO, vL, .slice (some ⟨gi, 0, none⟩) vI.length vI.length, vQ] ∧ Blk w1 gi 34 vI.toArray ∧ Tch base wr w1) ∧ wr.heap.size ≤ w1.heap.size ∧
      (∀ k o, wr.heap.size ≤ k → k < W.heap.size → w1.cell? ⟨k, o, none⟩ = W.cell? ⟨k, o, none⟩) ∧ OwnI w1 base vO O ∧ Blk w1 g7 49 cs := by
  obtain ⟨F, s1, i1, T, h5, h6⟩ := two_1 S 2 (by simp) hb hg ho hat
  refine ⟨⟨F, s1, i1, T⟩, h5, h6, ?_, T.blk Y (by decide) (by decide) (by decide)⟩
  exact F.own 1 (by simp) (by simp)
theorem fam_nil (w : World) (base n : Nat) : Fam w base (.slice none 0 0 :: .slice none 0 0 :: .slice none 0 0 :: .slice none 0 0 :: List.replicate n (.slice none 0 0)) ([] :: [] :: [] :: [] :: List.replicate n []) := by
  have e1 : ∀ (n : Nat), (.slice none 0 0 :: .slice none 0 0 :: .slice none 0 0 :: .slice none 0 0 :: List.replicate n (.slice none 0 0) : List Value) = List.replicate (n + 4) (.slice none 0 0) := fun n => rfl
  have e2 : ∀ (n : Nat), ([] :: [] :: [] :: [] :: List.replicate n [] : List (List Int)) = List.replicate (n + 4) [] := fun n => rfl
  rw [e1, e2]
  refine ⟨by simp, fun i hv hx => ?_, fun i j hi hj _ g hg => ?_⟩
  · simp only [List.getElem_replicate]; exact OwnI.nil _ _
  · simp only [List.getElem_replicate] at hg; simp [Value.ownBlock] at hg
theorem made_nil (n : Nat) : madeCells (Value.slice none 0 0).cells (n * 1) = (List.replicate n (Value.slice none 0 0)).toArray := by
  have e : (Value.slice none 0 0).cells = #[.slice none 0 0] := rfl
  rw [e, Nat.mul_one]
  apply Array.ext
  · rw [size_madeCells]; simp
  · intro i h1 h2
    simp [madeCells, Nat.mod_one]
theorem infoSl : (Try.prog.info? 34).map (fun i => (i.zero, i.size, i.bytes)) = some (some (.slice none 0 0), 1, 24) := by kernel_rfl
end Go.Proofs.Ytdjjhflhdhihcaa
