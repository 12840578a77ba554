
/- Seam: sending, and what is kept. -/
import Derived.Test.YtfofmbmmighdiaaDoorSeamNi
import Derived.Test.YtfofmbmmighdiaaDoorSeamSa
set_option linter.unusedSimpArgs false
set_option linter.unusedVariables false
namespace Go.Proofs.YtfofmbmmighdiaaDoor
open Go.RowKit Go.IntWalk

section
variable {w0 wx wy : World} {px gd nn na nb xa xb xn : Nat} {va vb vn : Value} {ra rb : List Rob} {F : List Pk} {sp : Int}
/-- PrNet, and what is kept. -/
def PrK (w0 : World) (px gd nn na nb xa xb xn : Nat) (va vb vn : Value) (ra rb : List Rob) (F : List Pk) (sp : Int) (wx w' : World) (x : Value) (e : Ending) : Prop :=
  e = .returned x ∧ ∃ vn', Pr w0 px gd nn na nb xa xb xn va vb vn' ra rb F sp w' ∧ Keep wx vn w' vn'
set_option maxRecDepth 100000 in
set_option maxHeartbeats 2000000 in
theorem psendK_any (h : Pr w0 px gd nn na nb xa xb xn va vb vn ra rb F sp wx) (hsp : sp = 0 ∨ sp = 1) (hF : F.length ≤ 500) (he : Env w0) (who : Int) (hw : who = 0 ∨ who = 1) (k i n : Int) (hk : I64 k) (hi : I64 i) (hn : I64 n) :
    Calls Tryd.prog 36 #[.pointer (some ⟨px, 0, none⟩), .int .i64 who, .agg #[.int .i64 k, .int .i64 i, .int .i64 n], .int .i64 0] wx (fun e w' => PrK w0 px gd nn na nb xa xb xn va vb vn ra rb (sendN F sp (who, 1 - who, bs (encP (k, i, n)))) sp wx w' (.tuple #[]) e) := by
  have hB0 := hid (show Below wx.heap.size wx (wx.alloc (Obj.cells #[.int .i64 k, .int .i64 i, .int .i64 n] 27)) by (repeat (first | exact Below.refl _ _ | assumption | refine below_drewN ?_ _ | refine Below.drew ?_ | refine Below.alloc ?_ (by (try simp); (try omega)) _ | refine Below.setCell ?_ (by (try simp); (try omega)) _)))
  have P1 := hid (h.step hB0.out)
  have X1 := hid (Blk.new wx 27 #[.int .i64 k, .int .i64 i, .int .i64 n])
  obtain ⟨p0, p1, _, _⟩ := h.c
  have hz := h.bp.lt
  have cP := hid (fun (W : World) (hW : Pr w0 px gd nn na nb xa xb xn va vb vn ra rb F sp W) => pbytes_any k i n W hk hi hn (he.below hW.below))
  have cS := hid (fun (W : World) (hW : Pr w0 px gd nn na nb xa xb xn va vb vn ra rb F sp W) (a b : Int) (s : ByteArray) (hab : Ends a b) => nsend_any hW.nt hsp hF hW.hn a b s hab)
  clear h
  rcases hw with rfl | rfl
  all_goals
    go_enter Tryd.func36, Tryd.ntmps36
    go_upto_region 2 with fail
    go_region_with (first
      | (go_at_call 29; (with_reducible refine (cP.out _ ?_).mono ?_); (repeat (first | exact P1.out | refine Pr.drew ?_)); rintro e wa ⟨rfl, pa⟩; have PA := hid (P1.out.drew.step pa); have a0 := (PA.out.c).1; have a1 := (PA.out.c).2.1; have az := PA.out.bp.lt; have KA := hid (((Keep.below (v := vn) hB0.out).trans (Keep.below ((Below.refl _ _).drew))).trans (Keep.below pa)))
      | (go_at_call 66; (with_reducible refine (cS.out _ ?_ _ _ _ ?_).mono ?_); (repeat (first | exact PA.out | refine Pr.drew ?_)); (first | exact .inl ⟨rfl, rfl⟩ | exact .inr ⟨rfl, rfl⟩); rintro e wb ⟨y, vn2, rfl, hy, N2, C2, V2⟩))
    all_goals
      have D9 := hid (And.intro N2 (And.intro C2 V2))
      clear N2 C2 V2 hy pa
      go_wp2_with fail
      go_end0
      obtain ⟨N2, C2, V2⟩ := D9.out
      first
        | exact ⟨rfl, vn2, PA.out.net N2 C2, KA.out.trans (Keep.net PA.out.nt C2 V2)⟩
        | exact ⟨rfl, vn2, PA.out.drew.net N2 C2, (KA.out.trans (Keep.below ((Below.refl _ _).drew))).trans (Keep.net PA.out.drew.nt C2 V2)⟩
theorem psendK_no (h : Pr w0 px gd nn na nb xa xb xn va vb vn ra rb F sp wx) (who k i n en : Int) (hen : (en == 0) = false) :
    Calls Tryd.prog 36 #[.pointer (some ⟨px, 0, none⟩), .int .i64 who, .agg #[.int .i64 k, .int .i64 i, .int .i64 n], .int .i64 en] wx (fun e w' => PrK w0 px gd nn na nb xa xb xn va vb vn ra rb F sp wx w' (.tuple #[]) e) := by
  have P1 := hid (h.alloc (Obj.cells #[.int .i64 k, .int .i64 i, .int .i64 n] 27))
  have KA := hid (Keep.below (v := vn) (show Below wx.heap.size wx (wx.alloc (Obj.cells #[.int .i64 k, .int .i64 i, .int .i64 n] 27)) by (repeat (first | exact Below.refl _ _ | assumption | refine below_drewN ?_ _ | refine Below.drew ?_ | refine Below.alloc ?_ (by (try simp); (try omega)) _ | refine Below.setCell ?_ (by (try simp); (try omega)) _))))
  clear h
  go_enter Tryd.func36, Tryd.ntmps36
  go_wp2_with fail
  go_end0
  exact ⟨rfl, vn, P1.out, KA.out⟩
end
end Go.Proofs.YtfofmbmmighdiaaDoor
