
/- Seam: a packet arrives, and what is kept. -/
import Derived.Test.YtfofmbmmighdiaaDoorSeamKf
import Derived.Test.YtfofmbmmighdiaaDoorSeamNg
set_option linter.unusedSimpArgs false
set_option linter.unusedVariables false
namespace Go.Proofs.YtfofmbmmighdiaaDoor
open Go.RowKit Go.IntWalk

section
variable {w0 wx wy : World} {px gd nn na nb xa xb xn : Nat} {va vb vn : Value} {ra rb : List Rob} {F : List Pk} {sp : Int}
theorem Keep.box {w w' : World} {v : Value} {g : Nat} {cs : Array Value} (hb : Blk w g 27 cs) (hg : w.grownBy w' (some g)) : Keep w v w' v := by
  intro xs vs S a b
  refine ⟨(Chg.of_grown hg (S := fun k => k = g) (fun k e => by injection e)).row a (fun j hj e => ?_), b⟩
  subst e
  exact own_blk_ne a hb (by decide) hj
theorem keep_cut1 {w w5 : World} {v v1 : Value} (o : Obj) (h : Keep w v w5 v1) : Keep w v (w5.alloc o) v1 := h.trans (Keep.below (by (repeat (first | exact Below.refl _ _ | assumption | refine below_drewN ?_ _ | refine Below.drew ?_ | refine Below.alloc ?_ (by (try simp); (try omega)) _ | refine Below.setCell ?_ (by (try simp); (try omega)) _))))
theorem keep_cut2 {w w5 : World} {v v1 : Value} {g : Nat} {cs : Array Value} (h : Keep w v w5 v1) (hb : Blk w5 g 27 cs) (x y z : Value) : Keep w v (set3 w5 g x y z) v1 := h.trans (Keep.box hb (set3_grown _ _ _ _ _))
theorem Keep.drew {w w5 : World} {v v1 : Value} (h : Keep w v w5 v1) : Keep w v w5.drew v1 := h.trans (Keep.below ((Below.refl _ _).drew))
set_option maxRecDepth 100000 in
set_option maxHeartbeats 1000000 in
/-- Nothing arrives: there is no such packet, or the network is split. -/
theorem parriveK_none (h : Pr w0 px gd nn na nb xa xb xn va vb vn ra rb F sp wx) (hsp : sp = 0 ∨ sp = 1) (hF : F.length ≤ 500) (hE : ∀ p ∈ F, Ends p.1 p.2.1) (i : Int) (hi : ¬ (0 ≤ i ∧ i < F.length) ∨ sp = 1) (take : Bool) (F1 : List Pk) (hF1 : dropN F i = F1) :
    Calls Tryd.prog 37 #[.pointer (some ⟨px, 0, none⟩), .int .i64 i, .bool take] wx (fun e w' => PrK w0 px gd nn na nb xa xb xn va vb vn ra rb F1 sp wx w' (.bool true) e) := by
  obtain ⟨p0, p1, _, _⟩ := h.c
  have hz := h.bp.lt
  have hc := ndeliver_any h.nt hsp hF i hE
  obtain ⟨en, pq, hde, hen⟩ : ∃ en pq, delN F sp i = (pq, en) ∧ (en = 4 ∨ en = 10) := by
    unfold delN
    split
    · rename_i hin
      rcases hi with hi | rfl
      · exact absurd hin hi
      · exact ⟨10, _, rfl, .inr rfl⟩
    · exact ⟨4, _, rfl, .inl rfl⟩
  rw [hde, hF1] at hc
  obtain ⟨pa, pb, ps⟩ := pq
  have P0 := hid h
  have HC := hid hc
  clear h hc hE hde hi hF1 hsp
  go_enter Tryd.func37, Tryd.ntmps37
  go_wp2_with fail
  refine HC.out.mono ?_
  rintro e w1 ⟨x, vn1, rfl, rfl, N1, C1, V1⟩
  have P1 := hid ((P0.out.net N1 C1).alloc (Obj.cells (pkv (pa, pb, ps)) 76))
  have KA := hid (keep_cut1 (Obj.cells (pkv (pa, pb, ps)) 76) (Keep.net P0.out.nt C1 V1))
  clear N1 C1 V1 HC P0 p0 p1
  rcases hen with rfl | rfl
  all_goals
    go_wp2_with fail
    go_ret
    exact ⟨rfl, vn1, P1.out, KA.out⟩
set_option maxRecDepth 100000 in
set_option maxHeartbeats 4000000 in
theorem parriveK_0 (h : Pr w0 px gd nn na nb xa xb xn va vb vn ra rb F 0 wx) (hF : F.length ≤ 500) (hE : ∀ p ∈ F, Ends p.1 p.2.1) (he : Env w0) (k : Nat) (hk : k < F.length) (pk pi pn : Int) (i1 : I64 pk) (i2 : I64 pi) (i3 : I64 pn)
    (hp : F[k] = (1, 0, bs (encP (pk, pi, pn)))) (take : Bool) (F1 : List Pk) (hF1 : F.eraseIdx k = F1) (ra' : List Rob) (aa ab ac : Int) (is : Bool) (ja : I64 aa) (jb : I64 ab) (jc : I64 ac) (hh : hearL ra (pk, pi, pn) take = (ra', (aa, ab, ac), is, 0)) :
    Calls Tryd.prog 37 #[.pointer (some ⟨px, 0, none⟩), .int .i64 k, .bool take] wx (fun e w' => PrK w0 px gd nn na nb xa xb xn va vb vn ra' rb (if is then sendN F1 0 (0, 1 - 0, bs (encP (aa, ab, ac))) else F1) 0 wx w' (.bool true) e) := by
  obtain ⟨p0, p1, _, _⟩ := h.c
  have hz := h.bp.lt
  have hc := ndeliver_any h.nt (.inl rfl) hF k hE
  rw [dropN_yes hk, show delN F 0 (k : Int) = ((1, 0, bs (encP (pk, pi, pn))), 0) by unfold delN; rw [if_pos ⟨by omega, by omega⟩, if_pos rfl, getN_yes hk, hp], hF1] at hc
  have P0 := hid h
  have HC := hid hc
  have hel := hid (show F1.length ≤ 500 by rw [← hF1, List.length_eraseIdx_of_lt hk]; omega)
  have HH := hid hh
  clear h hc hE hh hp hF1
  go_enter Tryd.func37, Tryd.ntmps37
  go_wp2_with fail
  refine HC.out.mono ?_
  rintro e w1 ⟨x, vn1, rfl, rfl, N1, C1, V1⟩
  have P1 := hid (P0.out.net N1 C1)
  have sz1 := hid C1.size
  have K2 := hid (keep_cut1 (Obj.cells (pkv (1, 0, bs (encP (pk, pi, pn)))) 76) (Keep.net P0.out.nt C1 V1))
  clear N1 C1 V1 HC P0 p0 p1
  have P2 := hid (P1.out.alloc (Obj.cells (pkv (1, 0, bs (encP (pk, pi, pn)))) 76))
  have x7 := hid (Blk.new w1 76 (pkv (1, 0, bs (encP (pk, pi, pn)))))
  have hl7 := hid P1.out.below.size
  have sz2 := hid (show wx.heap.size ≤ (w1.alloc (Obj.cells (pkv (1, 0, bs (encP (pk, pi, pn)))) 76)).heap.size by simp; have := sz1.out; omega)
  clear P1 sz1
  go_wp2_with fail
  have hr := rpass_any (bs (encP (pk, pi, pn))) (w1.alloc (Obj.cells (pkv (1, 0, bs (encP (pk, pi, pn)))) 76)) (by have := encP_len (pk, pi, pn) i1 i2 i3; omega) (he.below P2.out.below)
  rw [show (bs (encP (pk, pi, pn))).data.toList = encP (pk, pi, pn) by simp [bs], rp_encPn (pk, pi, pn) i1 i2 i3] at hr
  refine hr.mono ?_
  clear hr
  rintro e w3 ⟨rfl, hB3⟩
  have P4 := hid ((P2.out.step hB3).alloc (Obj.cells (pasv (pk, pi, pn)) 27))
  have x74 := hid ((x7.out.below hB3 x7.out.lt).alloc (Obj.cells (pasv (pk, pi, pn)) 27))
  have x94 := hid (Blk.new w3 27 (pasv (pk, pi, pn)))
  have sz4 := hid (show wx.heap.size ≤ (w3.alloc (Obj.cells (pasv (pk, pi, pn)) 27)).heap.size by have := sz2.out; have := hB3.size; simp at *; omega)
  have K4 := hid (keep_cut1 (Obj.cells (pasv (pk, pi, pn)) 27) (K2.out.trans (Keep.below hB3)))
  have y0 := (x7.out.below hB3 x7.out.lt).cell 1; have yz := (x7.out.below hB3 x7.out.lt).lt
  simp at y0
  clear hB3 P2 x7 sz2 K2
  generalize w1.heap.size = g7 at *
  go_upto_region 7 with fail
  clear y0 yz
  generalize hw4 : w3.alloc (Obj.cells (pasv (pk, pi, pn)) 27) = w4 at P4 x74 x94 sz4 K4
  simp only [pasv] at hw4
  (try rw [hw4])
  clear hw4
  generalize w3.heap.size = g9 at *
  obtain ⟨p0, p1, e0, e1⟩ := P4.out.c
  have zp := P4.out.bp.lt; have zd := P4.out.bd.lt; have z7 := x74.out.lt; have z9 := x94.out.lt
  have b0 := x74.out.cell 1; have c0 := x94.out.cell 0; have c1 := x94.out.cell 1; have c2 := x94.out.cell 2
  simp at b0 c0 c1 c2
  have cH := hid (fun (W : World) (hW : Pr w0 px gd nn na nb xa xb xn va vb vn1 ra rb F1 0 W) => show Calls Tryd.prog 22 #[.pointer (some ⟨na, 0, none⟩), .agg #[.int .i64 pk, .int .i64 pi, .int .i64 pn], .bool take] W (fun e w' => e = .returned (.tuple #[.agg #[.int .i64 aa, .int .i64 ab, .int .i64 ac], .bool is, .int .i64 0]) ∧ Pr w0 px gd nn na nb xa xb xn va vb vn1 ra' rb F1 0 w' ∧ W.heap.size ≤ w'.heap.size ∧ Keep W vn1 w' vn1 ∧ ∀ g t cs, t ≠ 85 → Blk W g t cs → Blk w' g t cs) from by
    have h1 := hear_any hW.da pk pi pn take
    rw [HH.out] at h1
    refine h1.mono ?_
    rintro e w' ⟨h2, h3, h4⟩
    exact ⟨h2, hW.a h3 h4, h4.size, Keep.row hW.da.r (by decide) h4, fun g t cs ht hb => hb.grown h4 (fun e => own_blk_ne hW.da.r hb (fun e => ht e.symm) e.symm)⟩)
  clear HH
  go_cut [11, 12, 13] (fun s11 s12 s13 wz => Keep wx vn wz vn1 ∧ CutA w0 px gd nn na nb xa xb xn va vb vn1 ra' rb F1 0 g7 (pkv (1, 0, bs (encP (pk, pi, pn)))) (aa, ab, ac) is s11 s12 s13 wz)
  case first =>
    have hl4 := hid P4.out.below.size
    have n9 := x94.out
    go_region_held3 (fun w' => w'.cell? ⟨px, 0, none⟩ = some (.slice (some ⟨gd, 0, none⟩) 2 2) ∧ w'.cell? ⟨gd, 0, none⟩ = some (.pointer (some ⟨na, 0, none⟩)) ∧ w'.cell? ⟨gd, 1, none⟩ = some (.pointer (some ⟨nb, 0, none⟩)) ∧ w'.cell? ⟨g7, 1, none⟩ = some (.int .i64 0) ∧ w'.cell? ⟨g9, 0, none⟩ = some (.int .i64 pk) ∧ w'.cell? ⟨g9, 1, none⟩ = some (.int .i64 pi) ∧ w'.cell? ⟨g9, 2, none⟩ = some (.int .i64 pn))
      (first | assumption | go_keep | (go_split_ands; refine ⟨?_, ?_, ?_, ?_, ?_, ?_, ?_⟩ <;> (rw [World.cell?_setCell_far _ _ _ _ (by (try simp); (try omega)), World.cell?_setCell_far _ _ _ _ (by (try simp); (try omega)), World.cell?_setCell_far _ _ _ _ (by (try simp); (try omega))]; assumption)))
      (first
      | (go_at_call 22; (with_reducible refine (cH.out _ ?_).mono ?_); (repeat (first | with_reducible exact P4.out | with_reducible refine Pr.drew ?_ | with_reducible refine Pr.alloc ?_ _)); rintro e w5 ⟨rfl, P5, s5, kk5, k5⟩; have KK := hid (K4.out.trans (Keep.trans (Keep.below (by (repeat (first | exact Below.refl _ _ | assumption | refine below_drewN ?_ _ | refine Below.drew ?_ | refine Below.alloc ?_ (by (try simp); (try omega)) _ | refine Below.setCell ?_ (by (try simp); (try omega)) _)))) kk5)); obtain ⟨t0, _, t2, t3⟩ := P5.c; have q7 := k5 g7 76 (pkv (1, 0, bs (encP (pk, pi, pn)))) (by decide) (by (repeat (first | with_reducible exact x74.out | with_reducible refine Blk.drew ?_ | with_reducible refine Blk.alloc ?_ _))); have q9 := k5 g9 27 (pasv (pk, pi, pn)) (by decide) (by (repeat (first | with_reducible exact x94.out | with_reducible refine Blk.drew ?_ | with_reducible refine Blk.alloc ?_ _))); have t4 := q7.cell 1; have t5 := q9.cell 0; have t6 := q9.cell 1; have t7 := q9.cell 2; simp at t4 t5 t6 t7; (first | (with_reducible have qb := k5 w4.heap.size 27 (pasv (0, 0, 0)) (by decide) (Blk.drew (Blk.new w4 27 (pasv (0, 0, 0)))); have qb0 := qb.cell 0; have qb1 := qb.cell 1; have qb2 := qb.cell 2; have qf0 := qb.frozen 0; have qf1 := qb.frozen 1; have qf2 := qb.frozen 2; have qz := qb.lt; simp at qb0 qb1 qb2) | skip)))
    all_goals
      have P5' := hid P5
      have q7' := hid q7
      (first | have qb' := hid qb | skip)
      (first | clear qb | skip)
      clear P5 q7 k5 kk5
      go_wp2_with fail
      go_meet
      first
        | with_reducible exact ⟨keep_cut1 _ KK.out, cutA_1 (aa, ab, ac) is P5'.out q7'.out⟩
        | with_reducible exact ⟨keep_cut1 _ KK.out.drew, cutA_1 (aa, ab, ac) is P5'.out.drew q7'.out.drew⟩
        | with_reducible exact ⟨keep_cut2 KK.out qb'.out _ _ _, cutA_2 (aa, ab, ac) is P5'.out q7'.out qb'.out hl4.out⟩
        | with_reducible exact ⟨keep_cut2 KK.out.drew qb'.out.drew _ _ _, cutA_2 (aa, ab, ac) is P5'.out.drew q7'.out.drew qb'.out.drew hl4.out⟩
  case rest =>
    obtain ⟨kc, g, rfl, rfl, rfl, P5, xg, x75⟩ := hcut
    have KC := hid kc
    clear kc
    have p5 := hid P5
    have t1 := x75.cell 1; have t0 := xg.cell 0; have t2 := xg.cell 1; have t3 := xg.cell 2
    simp at t0 t1 t2 t3
    have l7 := x75.lt; have lg := xg.lt
    clear P5 xg x75 p0 p1 e0 e1 zp zd z7 z9 b0 c0 c1 c2 cH
    cases is with
    | true =>
      go_wp2_with fail
      refine (psendK_any p5.out (.inl rfl) hel.out he 0 (by simp) aa ab ac ja jb jc).mono ?_
      rintro e w9 ⟨rfl, vn2, P9, k9⟩
      have p9 := hid P9
      have K9 := hid (KC.out.trans k9)
      clear P9 k9 t0 t1 t2 t3 l7 lg
      go_wp2_with fail
      go_ret
      exact ⟨rfl, vn2, p9.out, K9.out⟩
    | false =>
      go_wp2_with fail
      go_ret
      exact ⟨rfl, vn1, p5.out, KC.out⟩
set_option maxRecDepth 100000 in
set_option maxHeartbeats 4000000 in
theorem parriveK_1 (h : Pr w0 px gd nn na nb xa xb xn va vb vn ra rb F 0 wx) (hF : F.length ≤ 500) (hE : ∀ p ∈ F, Ends p.1 p.2.1) (he : Env w0) (k : Nat) (hk : k < F.length) (pk pi pn : Int) (i1 : I64 pk) (i2 : I64 pi) (i3 : I64 pn)
    (hp : F[k] = (0, 1, bs (encP (pk, pi, pn)))) (take : Bool) (F1 : List Pk) (hF1 : F.eraseIdx k = F1) (rb' : List Rob) (aa ab ac : Int) (is : Bool) (ja : I64 aa) (jb : I64 ab) (jc : I64 ac) (hh : hearL rb (pk, pi, pn) take = (rb', (aa, ab, ac), is, 0)) :
    Calls Tryd.prog 37 #[.pointer (some ⟨px, 0, none⟩), .int .i64 k, .bool take] wx (fun e w' => PrK w0 px gd nn na nb xa xb xn va vb vn ra rb' (if is then sendN F1 0 (1, 1 - 1, bs (encP (aa, ab, ac))) else F1) 0 wx w' (.bool true) e) := by
  obtain ⟨p0, p1, _, _⟩ := h.c
  have hz := h.bp.lt
  have hc := ndeliver_any h.nt (.inl rfl) hF k hE
  rw [dropN_yes hk, show delN F 0 (k : Int) = ((0, 1, bs (encP (pk, pi, pn))), 0) by unfold delN; rw [if_pos ⟨by omega, by omega⟩, if_pos rfl, getN_yes hk, hp], hF1] at hc
  have P0 := hid h
  have HC := hid hc
  have hel := hid (show F1.length ≤ 500 by rw [← hF1, List.length_eraseIdx_of_lt hk]; omega)
  have HH := hid hh
  clear h hc hE hh hp hF1
  go_enter Tryd.func37, Tryd.ntmps37
  go_wp2_with fail
  refine HC.out.mono ?_
  rintro e w1 ⟨x, vn1, rfl, rfl, N1, C1, V1⟩
  have P1 := hid (P0.out.net N1 C1)
  have sz1 := hid C1.size
  have K2 := hid (keep_cut1 (Obj.cells (pkv (0, 1, bs (encP (pk, pi, pn)))) 76) (Keep.net P0.out.nt C1 V1))
  clear N1 C1 V1 HC P0 p0 p1
  have P2 := hid (P1.out.alloc (Obj.cells (pkv (0, 1, bs (encP (pk, pi, pn)))) 76))
  have x7 := hid (Blk.new w1 76 (pkv (0, 1, bs (encP (pk, pi, pn)))))
  have hl7 := hid P1.out.below.size
  have sz2 := hid (show wx.heap.size ≤ (w1.alloc (Obj.cells (pkv (0, 1, bs (encP (pk, pi, pn)))) 76)).heap.size by simp; have := sz1.out; omega)
  clear P1 sz1
  go_wp2_with fail
  have hr := rpass_any (bs (encP (pk, pi, pn))) (w1.alloc (Obj.cells (pkv (0, 1, bs (encP (pk, pi, pn)))) 76)) (by have := encP_len (pk, pi, pn) i1 i2 i3; omega) (he.below P2.out.below)
  rw [show (bs (encP (pk, pi, pn))).data.toList = encP (pk, pi, pn) by simp [bs], rp_encPn (pk, pi, pn) i1 i2 i3] at hr
  refine hr.mono ?_
  clear hr
  rintro e w3 ⟨rfl, hB3⟩
  have P4 := hid ((P2.out.step hB3).alloc (Obj.cells (pasv (pk, pi, pn)) 27))
  have x74 := hid ((x7.out.below hB3 x7.out.lt).alloc (Obj.cells (pasv (pk, pi, pn)) 27))
  have x94 := hid (Blk.new w3 27 (pasv (pk, pi, pn)))
  have sz4 := hid (show wx.heap.size ≤ (w3.alloc (Obj.cells (pasv (pk, pi, pn)) 27)).heap.size by have := sz2.out; have := hB3.size; simp at *; omega)
  have K4 := hid (keep_cut1 (Obj.cells (pasv (pk, pi, pn)) 27) (K2.out.trans (Keep.below hB3)))
  have y0 := (x7.out.below hB3 x7.out.lt).cell 1; have yz := (x7.out.below hB3 x7.out.lt).lt
  simp at y0
  clear hB3 P2 x7 sz2 K2
  generalize w1.heap.size = g7 at *
  go_upto_region 7 with fail
  clear y0 yz
  generalize hw4 : w3.alloc (Obj.cells (pasv (pk, pi, pn)) 27) = w4 at P4 x74 x94 sz4 K4
  simp only [pasv] at hw4
  (try rw [hw4])
  clear hw4
  generalize w3.heap.size = g9 at *
  obtain ⟨p0, p1, e0, e1⟩ := P4.out.c
  have zp := P4.out.bp.lt; have zd := P4.out.bd.lt; have z7 := x74.out.lt; have z9 := x94.out.lt
  have b0 := x74.out.cell 1; have c0 := x94.out.cell 0; have c1 := x94.out.cell 1; have c2 := x94.out.cell 2
  simp at b0 c0 c1 c2
  have cH := hid (fun (W : World) (hW : Pr w0 px gd nn na nb xa xb xn va vb vn1 ra rb F1 0 W) => show Calls Tryd.prog 22 #[.pointer (some ⟨nb, 0, none⟩), .agg #[.int .i64 pk, .int .i64 pi, .int .i64 pn], .bool take] W (fun e w' => e = .returned (.tuple #[.agg #[.int .i64 aa, .int .i64 ab, .int .i64 ac], .bool is, .int .i64 0]) ∧ Pr w0 px gd nn na nb xa xb xn va vb vn1 ra rb' F1 0 w' ∧ W.heap.size ≤ w'.heap.size ∧ Keep W vn1 w' vn1 ∧ ∀ g t cs, t ≠ 85 → Blk W g t cs → Blk w' g t cs) from by
    have h1 := hear_any hW.db pk pi pn take
    rw [HH.out] at h1
    refine h1.mono ?_
    rintro e w' ⟨h2, h3, h4⟩
    exact ⟨h2, hW.b h3 h4, h4.size, Keep.row hW.db.r (by decide) h4, fun g t cs ht hb => hb.grown h4 (fun e => own_blk_ne hW.db.r hb (fun e => ht e.symm) e.symm)⟩)
  clear HH
  go_cut [11, 12, 13] (fun s11 s12 s13 wz => Keep wx vn wz vn1 ∧ CutA w0 px gd nn na nb xa xb xn va vb vn1 ra rb' F1 0 g7 (pkv (0, 1, bs (encP (pk, pi, pn)))) (aa, ab, ac) is s11 s12 s13 wz)
  case first =>
    have hl4 := hid P4.out.below.size
    have n9 := x94.out
    go_region_held3 (fun w' => w'.cell? ⟨px, 0, none⟩ = some (.slice (some ⟨gd, 0, none⟩) 2 2) ∧ w'.cell? ⟨gd, 0, none⟩ = some (.pointer (some ⟨na, 0, none⟩)) ∧ w'.cell? ⟨gd, 1, none⟩ = some (.pointer (some ⟨nb, 0, none⟩)) ∧ w'.cell? ⟨g7, 1, none⟩ = some (.int .i64 1) ∧ w'.cell? ⟨g9, 0, none⟩ = some (.int .i64 pk) ∧ w'.cell? ⟨g9, 1, none⟩ = some (.int .i64 pi) ∧ w'.cell? ⟨g9, 2, none⟩ = some (.int .i64 pn))
      (first | assumption | go_keep | (go_split_ands; refine ⟨?_, ?_, ?_, ?_, ?_, ?_, ?_⟩ <;> (rw [World.cell?_setCell_far _ _ _ _ (by (try simp); (try omega)), World.cell?_setCell_far _ _ _ _ (by (try simp); (try omega)), World.cell?_setCell_far _ _ _ _ (by (try simp); (try omega))]; assumption)))
      (first
      | (go_at_call 22; (with_reducible refine (cH.out _ ?_).mono ?_); (repeat (first | with_reducible exact P4.out | with_reducible refine Pr.drew ?_ | with_reducible refine Pr.alloc ?_ _)); rintro e w5 ⟨rfl, P5, s5, kk5, k5⟩; have KK := hid (K4.out.trans (Keep.trans (Keep.below (by (repeat (first | exact Below.refl _ _ | assumption | refine below_drewN ?_ _ | refine Below.drew ?_ | refine Below.alloc ?_ (by (try simp); (try omega)) _ | refine Below.setCell ?_ (by (try simp); (try omega)) _)))) kk5)); obtain ⟨t0, _, t2, t3⟩ := P5.c; have q7 := k5 g7 76 (pkv (0, 1, bs (encP (pk, pi, pn)))) (by decide) (by (repeat (first | with_reducible exact x74.out | with_reducible refine Blk.drew ?_ | with_reducible refine Blk.alloc ?_ _))); have q9 := k5 g9 27 (pasv (pk, pi, pn)) (by decide) (by (repeat (first | with_reducible exact x94.out | with_reducible refine Blk.drew ?_ | with_reducible refine Blk.alloc ?_ _))); have t4 := q7.cell 1; have t5 := q9.cell 0; have t6 := q9.cell 1; have t7 := q9.cell 2; simp at t4 t5 t6 t7; (first | (with_reducible have qb := k5 w4.heap.size 27 (pasv (0, 0, 0)) (by decide) (Blk.drew (Blk.new w4 27 (pasv (0, 0, 0)))); have qb0 := qb.cell 0; have qb1 := qb.cell 1; have qb2 := qb.cell 2; have qf0 := qb.frozen 0; have qf1 := qb.frozen 1; have qf2 := qb.frozen 2; have qz := qb.lt; simp at qb0 qb1 qb2) | skip)))
    all_goals
      have P5' := hid P5
      have q7' := hid q7
      (first | have qb' := hid qb | skip)
      (first | clear qb | skip)
      clear P5 q7 k5 kk5
      go_wp2_with fail
      go_meet
      first
        | with_reducible exact ⟨keep_cut1 _ KK.out, cutA_1 (aa, ab, ac) is P5'.out q7'.out⟩
        | with_reducible exact ⟨keep_cut1 _ KK.out.drew, cutA_1 (aa, ab, ac) is P5'.out.drew q7'.out.drew⟩
        | with_reducible exact ⟨keep_cut2 KK.out qb'.out _ _ _, cutA_2 (aa, ab, ac) is P5'.out q7'.out qb'.out hl4.out⟩
        | with_reducible exact ⟨keep_cut2 KK.out.drew qb'.out.drew _ _ _, cutA_2 (aa, ab, ac) is P5'.out.drew q7'.out.drew qb'.out.drew hl4.out⟩
  case rest =>
    obtain ⟨kc, g, rfl, rfl, rfl, P5, xg, x75⟩ := hcut
    have KC := hid kc
    clear kc
    have p5 := hid P5
    have t1 := x75.cell 1; have t0 := xg.cell 0; have t2 := xg.cell 1; have t3 := xg.cell 2
    simp at t0 t1 t2 t3
    have l7 := x75.lt; have lg := xg.lt
    clear P5 xg x75 p0 p1 e0 e1 zp zd z7 z9 b0 c0 c1 c2 cH
    cases is with
    | true =>
      go_wp2_with fail
      refine (psendK_any p5.out (.inl rfl) hel.out he 1 (by simp) aa ab ac ja jb jc).mono ?_
      rintro e w9 ⟨rfl, vn2, P9, k9⟩
      have p9 := hid P9
      have K9 := hid (KC.out.trans k9)
      clear P9 k9 t0 t1 t2 t3 l7 lg
      go_wp2_with fail
      go_ret
      exact ⟨rfl, vn2, p9.out, K9.out⟩
    | false =>
      go_wp2_with fail
      go_ret
      exact ⟨rfl, vn1, p5.out, KC.out⟩
end
end Go.Proofs.YtfofmbmmighdiaaDoor
