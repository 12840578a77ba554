
/- Net: doubling, listing. -/
import Derived.Test.YtfofmbmmighdiaaDoorSeamNd
import Derived.Deep.AppendLies
import Derived.Deep.RegionLaw
set_option linter.unusedSimpArgs false
set_option linter.unusedVariables false
namespace Go.Proofs.YtfofmbmmighdiaaDoor
open Go.RowKit Go.IntWalk

def dblN (F : List Pk) (i : Int) : List Pk := if (0 ≤ i ∧ i < F.length) ∧ F.length < 500 then F ++ [getN F i] else F
theorem Nt.drew {w : World} {base nn : Nat} {v : Value} {F : List Pk} {sp : Int} (h : Nt w base nn v F sp) : Nt w.drew base nn v F sp := ⟨h.d, h.r⟩
theorem step_appPk {ops : Array Oper} {o : Oper} {a : Act} {K : Act → World → Prop} {Q : Exit → Act → World → Prop} {E : Prop} (w : World) (hgd : o.guard = none) (s x : Operand)
    (ho : o.op = .call { callee := .builtin .append, args := #[s, x], argTypes := #[73, 73] })
    (base : Nat) (v : Value) (F : List Pk) (hs : a.eval s = v) (hown : w.ownsRow base 76 3 v F.length (pc F)) (B : Nat) (p : Pk) (hx : a.eval x = .slice (some ⟨B, 0, none⟩) 1 1)
    (hb : Blk w B 76 (pkv p)) (hlen : F.length ≤ 1000000) (hbase : base ≤ w.heap.size)
    (h : ∀ g cap w', w'.ownsRow base 76 3 (.slice (some ⟨g, 0, none⟩) (F.length + 1) cap) (F ++ [p]).length (pc (F ++ [p])) → w.grownBy w' v.ownBlock → (v.ownBlock = some g ∨ g = w.heap.size) → g < w'.heap.size → K (a.put o.dst (.slice (some ⟨g, 0, none⟩) (F.length + 1) cap)) w') :
    if Region.wanted o (yielded ops a.tmps) = true then Oper.wp Tryd.prog o a w K Q else E := by
  obtain ⟨i0, hi, hz0, hz1, hz2⟩ := info_parts infoPk
  refine step_append_lies w hgd s x 73 ho base 76 i0 _ 3 32 Tryd.underlying73 hi hz0 hz1 hz2 rfl (by omega) v F.length (pc F) hs hown ⟨B, 0, none⟩ 1 1 [.int .i64 p.1, .int .i64 p.2.1, .string p.2.2] hx rfl ?_ ?_ (by omega) (by unfold maxLen; omega) (by omega) hbase _ rfl ?_
  · exact World.news_of_block (w := w) (B := B) hb
  · intro u hu
    simp at hu
    rcases hu with rfl | rfl | rfl <;> simp [Value.oneCell']
  · intro g cap w' h1 h2 h3 h4
    refine h g cap w' ?_ h2 h3 h4
    rw [pc_app, List.length_append]
    exact h1
theorem dbl_no {w : World} {base nn : Nat} {v : Value} {F : List Pk} {sp : Int} (h : Nt w base nn v F sp) (i : Int) (hi : (i < 0 ∨ (F.length : Int) ≤ i) ∨ 500 ≤ F.length) :
    Calls Tryd.prog 63 #[.pointer (some ⟨nn, 0, none⟩), .int .i64 i] w (NtRes w base nn v F sp (fun x => ∃ n, x = .int .i64 n)) := by
  have H := hid h
  obtain ⟨A, c, rfl, _, _, _⟩ := pk_row h.r
  obtain ⟨d0, d1⟩ := nt2 h
  have hz := h.d.lt
  clear h
  by_cases h0 : i < 0
  · clear hi
    go_enter Tryd.func63, Tryd.ntmps63
    go_wp2_with fail
    go_ret
    exact H.out.same ⟨_, rfl⟩ (Below.refl _ _)
  by_cases h1 : (F.length : Int) ≤ i
  · clear hi
    go_enter Tryd.func63, Tryd.ntmps63
    go_wp2_with fail
    go_ret
    exact H.out.same ⟨_, rfl⟩ (Below.refl _ _)
  have h2 : (500 : Int) ≤ (F.length : Int) := by omega
  clear hi
  go_enter Tryd.func63, Tryd.ntmps63
  go_wp2_with fail
  go_ret
  exact H.out.same ⟨_, rfl⟩ (Below.refl _ _)
set_option maxRecDepth 100000 in
set_option maxHeartbeats 1000000 in
theorem dbl_yes {w : World} {base nn : Nat} {v : Value} {F : List Pk} {sp : Int} (h : Nt w base nn v F sp) (hbs : base ≤ w.heap.size) (k : Nat) (hk : k < F.length) (hF : F.length < 500) (p : Pk) (hp : F[k] = p) :
    Calls Tryd.prog 63 #[.pointer (some ⟨nn, 0, none⟩), .int .i64 k] w (NtRes w base nn v (F ++ [p]) sp (fun x => ∃ n, x = .int .i64 n)) := by
  have H := hid h
  obtain ⟨A, c, rfl, _, _, hrow⟩ := pk_row h.r
  obtain ⟨g, cur, rfl, hg1, hg2, hb, hs, ht⟩ := hrow (by intro e; subst e; simp at hk)
  obtain ⟨k0, k1, k2⟩ := pk_cell hb ht hk
  obtain ⟨d0, d1⟩ := nt2 h
  have f0 := h.d.frozen 0
  have hz := h.d.lt
  have hk1 : (k : Int) < F.length := by omega
  have hF1 : ¬ (500 : Int) ≤ (F.length : Int) := by omega
  rw [hp] at k0 k1 k2
  obtain ⟨pa, pb, ps⟩ := p
  simp only at k0 k1 k2
  have hB1 := hid (show Below w.heap.size w ((w.alloc (Obj.cells (pkv (pa, pb, ps)) 76)).drew) by (repeat (first | exact Below.refl _ _ | assumption | refine below_drewN ?_ _ | refine Below.drew ?_ | refine Below.alloc ?_ (by (try simp); (try omega)) _ | refine Below.setCell ?_ (by (try simp); (try omega)) _)))
  have H2 := hid ((h.alloc (Obj.cells (pkv (pa, pb, ps)) 76)).drew)
  have x2 := hid ((Blk.new w 76 (pkv (pa, pb, ps))).drew)
  have hlen := hid (show F.length ≤ 1000000 by omega)
  have hbz := hid (show base ≤ (w.alloc (Obj.cells (pkv (pa, pb, ps)) 76)).drew.heap.size by show base ≤ (w.alloc _).heap.size; simp; omega)
  clear h hrow hb hs ht hp hg1 hF hbs
  go_enter Tryd.func63, Tryd.ntmps63
  go_upto_region 5 with fail
  go_region_law (first | (refine step_appPk _ (by rfl) (.tmp 28) (.tmp 36) (by rfl) base _ F (by rfl) H2.out.r w.heap.size (pa, pb, ps) (by rfl) x2.out hlen.out hbz.out ?_; intro g2 cap w1 ho1 hgr hat hlt1; have hd1 := Blk.grown H2.out.d hgr (fun e => H2.out.vn e.symm); have d10 := hd1.cell 0; have d11 := hd1.cell 1; have d1f := hd1.frozen 0; have d1l := hd1.lt; simp at d10 d11))
  all_goals
    have HF := hid (nt_app H2.out ho1 hgr (hat.elim (fun e => .inl (by rw [e]; rfl)) (fun e => .inr (by rw [e]; rfl))))
    clear ho1 hgr hat hd1
    go_wp2_with fail
    go_ret
    exact ⟨_, _, rfl, ⟨_, rfl⟩, HF.out.1, Chg.trans (S' := NetS nn (.slice (some ⟨g, 0, none⟩) F.length c)) (Chg.of_below hB1.out _) HF.out.2.1 (fun k _ h => h), fun g9 h9 => (HF.out.2.2 g9 h9).imp id (fun h => by have := hB1.out.size; omega)⟩
theorem ndouble_any {w : World} {base nn : Nat} {v : Value} {F : List Pk} {sp : Int} (h : Nt w base nn v F sp) (hbs : base ≤ w.heap.size) (i : Int) :
    Calls Tryd.prog 63 #[.pointer (some ⟨nn, 0, none⟩), .int .i64 i] w (NtRes w base nn v (dblN F i) sp (fun x => ∃ n, x = .int .i64 n)) := by
  by_cases hi : (0 ≤ i ∧ i < F.length) ∧ F.length < 500
  · obtain ⟨k, rfl⟩ : ∃ k : Nat, i = k := ⟨i.toNat, by omega⟩
    have hk : k < F.length := by omega
    rw [show dblN F k = F ++ [F[k]] by unfold dblN; rw [if_pos hi, getN_yes hk]]
    exact dbl_yes h hbs k hk hi.2 _ rfl
  · rw [show dblN F i = F by unfold dblN; rw [if_neg hi]]
    exact dbl_no h i (by omega)
end Go.Proofs.YtfofmbmmighdiaaDoor
