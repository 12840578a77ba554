
/- Seam: two desks and a network between them, in memory; sending. -/
import Derived.Test.YtfofmbmmighdiaaDoorSeamNe
import Derived.Test.YtfofmbmmighdiaaDoorSeamQ
import Derived.Test.YtfofmbmmighdiaaDoorSeamP
import Derived.Test.YtfofmbmmighdiaaDoorSeamE
set_option linter.unusedSimpArgs false
set_option linter.unusedVariables false
namespace Go.Proofs.YtfofmbmmighdiaaDoor
open Go.RowKit Go.IntWalk

theorem Dk.chg {w w' : World} {S : Nat → Prop} {base b : Nat} {v : Value} {me : Int} {rs : List Rob} (h : Dk w base b v me rs) (C : Chg w w' S) (hb : ¬ S b) (hv : ∀ g, v.ownBlock = some g → ¬ S g) : Dk w' base b v me rs :=
  ⟨C.blk h.d hb, C.row h.r hv⟩
theorem Nt.chg {w w' : World} {S : Nat → Prop} {base nn : Nat} {v : Value} {F : List Pk} {sp : Int} (h : Nt w base nn v F sp) (C : Chg w w' S) (hb : ¬ S nn) (hv : ∀ g, v.ownBlock = some g → ¬ S g) : Nt w' base nn v F sp :=
  ⟨C.blk h.d hb, C.row h.r hv⟩
/-- What two rows of unlike types own. -/
theorem rows_ne {w : World} {base base' n n' s s' : Nat} {e e' : TypeId} {v v' : Value} {xs xs' : List Value} (h : w.ownsRow base e s v n xs) (h' : w.ownsRow base' e' s' v' n' xs') (hne : e ≠ e') : ∀ g, v.ownBlock = some g → v'.ownBlock ≠ some g := by
  intro g hg e9
  rcases h.2 with ⟨rfl, _⟩ | ⟨g1, cap, cur, rfl, _, hh, _⟩
  · simp [Value.ownBlock] at hg
  · rcases h'.2 with ⟨rfl, _⟩ | ⟨g2, cap', cur', rfl, _, hh', _⟩
    · simp [Value.ownBlock] at e9
    · have a1 : g1 = g := by simpa [Value.ownBlock] using hg
      have a2 : g2 = g := by simpa [Value.ownBlock] using e9
      subst a1
      subst a2
      rw [hh] at hh'
      injection hh' with hh'
      injection hh' with _ ht
      exact hne ht
/-- Two desks and a network. -/
structure Pr (w0 : World) (px gd nn na nb xa xb xn : Nat) (va vb vn : Value) (ra rb : List Rob) (F : List Pk) (sp : Int) (wx : World) : Prop where
  below : Below w0.heap.size w0 wx
  lo : w0.heap.size ≤ px ∧ w0.heap.size ≤ gd ∧ w0.heap.size ≤ nn ∧ w0.heap.size ≤ xa ∧ w0.heap.size ≤ xb ∧ w0.heap.size ≤ xn
  hn : xn ≤ wx.heap.size
  bp : Blk wx px 66 #[.slice (some ⟨gd, 0, none⟩) 2 2, .pointer (some ⟨nn, 0, none⟩)]
  bd : Blk wx gd 30 #[.pointer (some ⟨na, 0, none⟩), .pointer (some ⟨nb, 0, none⟩)]
  da : Dk wx xa na va 0 ra
  db : Dk wx xb nb vb 1 rb
  sab : va.ownBlock = none ∨ va.ownBlock ≠ vb.ownBlock
  sba : vb.ownBlock = none ∨ vb.ownBlock ≠ va.ownBlock
  nt : Nt wx xn nn vn F sp
section
variable {w0 wx wy : World} {px gd nn na nb xa xb xn : Nat} {va vb vn : Value} {ra rb : List Rob} {F : List Pk} {sp : Int}
theorem Pr.step (h : Pr w0 px gd nn na nb xa xb xn va vb vn ra rb F sp wx) (hb : Below wx.heap.size wx wy) : Pr w0 px gd nn na nb xa xb xn va vb vn ra rb F sp wy :=
  ⟨h.below.trans (hb.mono h.below.size), h.lo, Nat.le_trans h.hn hb.size, h.bp.below hb h.bp.lt, h.bd.below hb h.bd.lt, h.da.below hb, h.db.below hb, h.sab, h.sba, h.nt.below hb⟩
theorem Pr.drew (h : Pr w0 px gd nn na nb xa xb xn va vb vn ra rb F sp wx) : Pr w0 px gd nn na nb xa xb xn va vb vn ra rb F sp wx.drew := h.step (by (repeat (first | exact Below.refl _ _ | assumption | refine below_drewN ?_ _ | refine Below.drew ?_ | refine Below.alloc ?_ (by (try simp); (try omega)) _ | refine Below.setCell ?_ (by (try simp); (try omega)) _)))
theorem Pr.alloc (h : Pr w0 px gd nn na nb xa xb xn va vb vn ra rb F sp wx) (o : Obj) : Pr w0 px gd nn na nb xa xb xn va vb vn ra rb F sp (wx.alloc o) := h.step (by (repeat (first | exact Below.refl _ _ | assumption | refine below_drewN ?_ _ | refine Below.drew ?_ | refine Below.alloc ?_ (by (try simp); (try omega)) _ | refine Below.setCell ?_ (by (try simp); (try omega)) _)))
theorem Pr.a (h : Pr w0 px gd nn na nb xa xb xn va vb vn ra rb F sp wx) {ra' : List Rob} (hd : Dk wy xa na va 0 ra') (hg : wx.grownBy wy va.ownBlock) : Pr w0 px gd nn na nb xa xb xn va vb vn ra' rb F sp wy :=
  ⟨h.da.low h.below h.lo.2.2.2.1 hg, h.lo, Nat.le_trans h.hn hg.size, h.bp.grown hg (fun e => own_blk_ne h.da.r h.bp (by decide) e.symm), h.bd.grown hg (fun e => own_blk_ne h.da.r h.bd (by decide) e.symm), hd, h.db.beside h.da hg h.sba, h.sab, h.sba,
    h.nt.chg (Chg.of_grown hg (S := fun k => some k = va.ownBlock) (fun _ e => e)) (fun e => own_blk_ne h.da.r h.nt.d (by decide) e.symm) (fun g hv e => rows_ne h.nt.r h.da.r (by decide) g hv e.symm)⟩
theorem Pr.b (h : Pr w0 px gd nn na nb xa xb xn va vb vn ra rb F sp wx) {rb' : List Rob} (hd : Dk wy xb nb vb 1 rb') (hg : wx.grownBy wy vb.ownBlock) : Pr w0 px gd nn na nb xa xb xn va vb vn ra rb' F sp wy :=
  ⟨h.db.low h.below h.lo.2.2.2.2.1 hg, h.lo, Nat.le_trans h.hn hg.size, h.bp.grown hg (fun e => own_blk_ne h.db.r h.bp (by decide) e.symm), h.bd.grown hg (fun e => own_blk_ne h.db.r h.bd (by decide) e.symm), h.da.beside h.db hg h.sab, hd, h.sab, h.sba,
    h.nt.chg (Chg.of_grown hg (S := fun k => some k = vb.ownBlock) (fun _ e => e)) (fun e => own_blk_ne h.db.r h.nt.d (by decide) e.symm) (fun g hv e => rows_ne h.nt.r h.db.r (by decide) g hv e.symm)⟩
theorem Pr.net (h : Pr w0 px gd nn na nb xa xb xn va vb vn ra rb F sp wx) {vn' : Value} {F' : List Pk} {sp' : Int} (N : Nt wy xn nn vn' F' sp') (C : Chg wx wy (NetS nn vn)) : Pr w0 px gd nn na nb xa xb xn va vb vn' ra rb F' sp' wy := by
  have hbn : ∀ {g : Nat} {t : TypeId} {cs : Array Value}, Blk wx g t cs → t ≠ 104 → t ≠ 76 → ¬ NetS nn vn g := by
    intro g t cs hb h1 h2 e
    rcases e with rfl | e
    · exact Blk.ne_ hb h.nt.d h1 rfl
    · exact own_blk_ne h.nt.r hb (fun e => h2 e.symm) e
  have hrn : ∀ {base n s : Nat} {e : TypeId} {v : Value} {xs : List Value}, wx.ownsRow base e s v n xs → e ≠ 104 → e ≠ 76 → ∀ g, v.ownBlock = some g → ¬ NetS nn vn g := by
    intro base n s e v xs ho h1 h2 g hg e9
    rcases e9 with rfl | e9
    · exact own_blk_ne ho h.nt.d h1 hg
    · exact rows_ne ho h.nt.r h2 g hg e9
  exact ⟨C.low h.below (fun k hk => by
      rcases hk with rfl | hk
      · exact h.lo.2.2.1
      · exact Nat.le_trans h.lo.2.2.2.2.2 (h.nt.r.lt k hk).1), h.lo, Nat.le_trans h.hn C.size, C.blk h.bp (hbn h.bp (by decide) (by decide)), C.blk h.bd (hbn h.bd (by decide) (by decide)),
    h.da.chg C (hbn h.da.d (by decide) (by decide)) (hrn h.da.r (by decide) (by decide)), h.db.chg C (hbn h.db.d (by decide) (by decide)) (hrn h.db.r (by decide) (by decide)), h.sab, h.sba, N⟩
theorem Pr.c (h : Pr w0 px gd nn na nb xa xb xn va vb vn ra rb F sp wx) : wx.cell? ⟨px, 0, none⟩ = some (.slice (some ⟨gd, 0, none⟩) 2 2) ∧ wx.cell? ⟨px, 1, none⟩ = some (.pointer (some ⟨nn, 0, none⟩)) ∧ wx.cell? ⟨gd, 0, none⟩ = some (.pointer (some ⟨na, 0, none⟩)) ∧ wx.cell? ⟨gd, 1, none⟩ = some (.pointer (some ⟨nb, 0, none⟩)) :=
  ⟨h.bp.cell 0, h.bp.cell 1, h.bd.cell 0, h.bd.cell 1⟩
/-- What a call that writes the network alone leaves. -/
def PrNet (w0 : World) (px gd nn na nb xa xb xn : Nat) (va vb : Value) (ra rb : List Rob) (F : List Pk) (sp : Int) (w' : World) (x : Value) (e : Ending) : Prop :=
  e = .returned x ∧ ∃ vn', Pr w0 px gd nn na nb xa xb xn va vb vn' ra rb F sp w'
set_option maxRecDepth 100000 in
set_option maxHeartbeats 2000000 in
theorem psend_any (h : Pr w0 px gd nn na nb xa xb xn va vb vn ra rb F sp wx) (hsp : sp = 0 ∨ sp = 1) (hF : F.length ≤ 500) (he : Env w0) (who : Int) (hw : who = 0 ∨ who = 1) (k i n : Int) (hk : I64 k) (hi : I64 i) (hn : I64 n) :
    Calls Tryd.prog 36 #[.pointer (some ⟨px, 0, none⟩), .int .i64 who, .agg #[.int .i64 k, .int .i64 i, .int .i64 n], .int .i64 0] wx (fun e w' => PrNet w0 px gd nn na nb xa xb xn va vb ra rb (sendN F sp (who, 1 - who, bs (encP (k, i, n)))) sp w' (.tuple #[]) e) := by
  have hB0 := hid (show Below wx.heap.size wx (wx.alloc (Obj.cells #[.int .i64 k, .int .i64 i, .int .i64 n] 27)) by (repeat (first | exact Below.refl _ _ | assumption | refine below_drewN ?_ _ | refine Below.drew ?_ | refine Below.alloc ?_ (by (try simp); (try omega)) _ | refine Below.setCell ?_ (by (try simp); (try omega)) _)))
  have P1 := hid (h.step hB0.out)
  have X1 := hid (Blk.new wx 27 #[.int .i64 k, .int .i64 i, .int .i64 n])
  obtain ⟨p0, p1, _, _⟩ := h.c
  have hz := h.bp.lt
  have cP := hid (fun (W : World) (hW : Pr w0 px gd nn na nb xa xb xn va vb vn ra rb F sp W) => pbytes_any k i n W hk hi hn (he.below hW.below))
  have cS := hid (fun (W : World) (hW : Pr w0 px gd nn na nb xa xb xn va vb vn ra rb F sp W) (a b : Int) (s : ByteArray) (hab : Ends a b) => nsend_any hW.nt hsp hF hW.hn a b s hab)
  clear h
  rcases hw with rfl | rfl
  all_goals
    go_enter Tryd.func36, Tryd.ntmps36
    go_upto_region 2 with fail
    go_region_with (first
      | (go_at_call 29; (with_reducible refine (cP.out _ ?_).mono ?_); (repeat (first | exact P1.out | refine Pr.drew ?_)); rintro e wa ⟨rfl, pa⟩; have PA := hid (P1.out.drew.step pa); have a0 := (PA.out.c).1; have a1 := (PA.out.c).2.1; have az := PA.out.bp.lt; have SZ := hid (Nat.le_trans hB0.out.size pa.size))
      | (go_at_call 66; (with_reducible refine (cS.out _ ?_ _ _ _ ?_).mono ?_); (repeat (first | exact PA.out | refine Pr.drew ?_)); (first | exact .inl ⟨rfl, rfl⟩ | exact .inr ⟨rfl, rfl⟩); rintro e wb ⟨y, vn2, rfl, hy, N2, C2, _⟩))
    all_goals
      have D9 := hid (And.intro N2 C2)
      clear N2 C2 hy pa
      go_wp2_with fail
      go_end0
      obtain ⟨N2, C2⟩ := D9.out
      first
        | exact ⟨rfl, vn2, PA.out.net N2 C2⟩
        | exact ⟨rfl, vn2, PA.out.drew.net N2 C2⟩
end
end Go.Proofs.YtfofmbmmighdiaaDoor
