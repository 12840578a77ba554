
/- Seam: a packet arrives, and is answered. -/
import Derived.Test.YtfofmbmmighdiaaDoorSeamNf
import Derived.Test.YtfofmbmmighdiaaDoorSeamD
import Derived.Deep.DeepCutAuto
set_option linter.unusedSimpArgs false
set_option linter.unusedVariables false
namespace Go.Proofs.YtfofmbmmighdiaaDoor
open Go.RowKit Go.IntWalk

section
variable {w0 wx wy : World} {px gd nn na nb xa xb xn : Nat} {va vb vn : Value} {ra rb : List Rob} {F : List Pk} {sp : Int}
theorem rp_encPn (p : Pas) (h1 : I64 p.1) (h2 : I64 p.2.1) (h3 : I64 p.2.2) : readPR (encP p) = some p := by
  have := readP_enc p h1 h2 h3 []
  rw [List.append_nil] at this
  unfold readPR
  rw [this]; rfl
theorem encP_len (p : Pas) (h1 : I64 p.1) (h2 : I64 p.2.1) (h3 : I64 p.2.2) : (bs (encP p)).size ≤ 66 := by
  have a := encI_le p.1 h1; have b := encI_le p.2.1 h2; have c := encI_le p.2.2 h3
  rw [bs_size, encP, List.length_append, List.length_append]; omega
/-- A box of a pass that the call itself made is no block of the pair's. -/
theorem Pr.box (h : Pr w0 px gd nn na nb xa xb xn va vb vn ra rb F sp wx) {g : Nat} {cs : Array Value} (hb : Blk wx g 27 cs) (hl : w0.heap.size ≤ g) (hg : wx.grownBy wy (some g)) : Pr w0 px gd nn na nb xa xb xn va vb vn ra rb F sp wy := by
  have C : Chg wx wy (fun k => k = g) := Chg.of_grown hg (fun k e => by injection e)
  have ne : ∀ {b : Nat} {t : TypeId} {cs' : Array Value}, Blk wx b t cs' → t ≠ 27 → ¬ (b = g) := fun h1 h2 e => by subst e; exact Blk.ne_ h1 hb h2 rfl
  have rn : ∀ {base n s : Nat} {e : TypeId} {v : Value} {xs : List Value}, wx.ownsRow base e s v n xs → e ≠ 27 → ∀ j, v.ownBlock = some j → ¬ (j = g) := fun h1 h2 j hj e => by subst e; exact own_blk_ne h1 hb h2 hj
  exact ⟨C.low h.below (fun k hk => by have hk : k = g := hk; omega), h.lo, Nat.le_trans h.hn C.size, C.blk h.bp (ne h.bp (by decide)), C.blk h.bd (ne h.bd (by decide)), h.da.chg C (ne h.da.d (by decide)) (rn h.da.r (by decide)), h.db.chg C (ne h.db.d (by decide)) (rn h.db.r (by decide)), h.sab, h.sba, h.nt.chg C (ne h.nt.d (by decide)) (rn h.nt.r (by decide))⟩
abbrev pasv (p : Pas) : Array Value := #[.int .i64 p.1, .int .i64 p.2.1, .int .i64 p.2.2]
/-- Behind the hearing. -/
def CutA (w0 : World) (px gd nn na nb xa xb xn : Nat) (va vb vn : Value) (ra rb : List Rob) (F : List Pk) (sp : Int) (g7 : Nat) (q7 : Array Value) (a : Pas) (is : Bool) (s11 s12 s13 : Value) (wx : World) : Prop :=
  ∃ g, s11 = .pointer (some ⟨g, 0, none⟩) ∧ s12 = .bool is ∧ s13 = .int .i64 0 ∧ Pr w0 px gd nn na nb xa xb xn va vb vn ra rb F sp wx ∧ Blk wx g 27 (pasv a) ∧ Blk wx g7 76 q7
theorem cutA_1 {g7 : Nat} {q7 : Array Value} (a : Pas) (is : Bool) (h : Pr w0 px gd nn na nb xa xb xn va vb vn ra rb F sp wx) (h7 : Blk wx g7 76 q7) :
    CutA w0 px gd nn na nb xa xb xn va vb vn ra rb F sp g7 q7 a is (.pointer (some ⟨wx.heap.size, 0, none⟩)) (.bool is) (.int .i64 0) (wx.alloc (.cells (pasv a) 27)) :=
  ⟨wx.heap.size, rfl, rfl, rfl, h.alloc _, Blk.new _ _ _, h7.alloc _⟩
theorem cutA_2 {g7 g : Nat} {q7 : Array Value} {x y z : Value} (a : Pas) (is : Bool) (h : Pr w0 px gd nn na nb xa xb xn va vb vn ra rb F sp wx) (h7 : Blk wx g7 76 q7) (hb : Blk wx g 27 #[x, y, z]) (hl : w0.heap.size ≤ g) :
    CutA w0 px gd nn na nb xa xb xn va vb vn ra rb F sp g7 q7 a is (.pointer (some ⟨g, 0, none⟩)) (.bool is) (.int .i64 0) (set3 wx g (.int .i64 a.1) (.int .i64 a.2.1) (.int .i64 a.2.2)) :=
  ⟨g, rfl, rfl, rfl, h.box hb hl (set3_grown _ _ _ _ _), set3_blk hb _ _ _, h7.grown (set3_grown _ _ _ _ _) (fun e => by injection e with e; subst e; exact Blk.ne_ h7 hb (by decide) rfl)⟩
set_option maxRecDepth 100000 in
set_option maxHeartbeats 1000000 in
/-- Nothing arrives: there is no such packet, or the network is split. -/
theorem parrive_none (h : Pr w0 px gd nn na nb xa xb xn va vb vn ra rb F sp wx) (hsp : sp = 0 ∨ sp = 1) (hF : F.length ≤ 500) (hE : ∀ p ∈ F, Ends p.1 p.2.1) (i : Int) (hi : ¬ (0 ≤ i ∧ i < F.length) ∨ sp = 1) (take : Bool) (F1 : List Pk) (hF1 : dropN F i = F1) :
    Calls Tryd.prog 37 #[.pointer (some ⟨px, 0, none⟩), .int .i64 i, .bool take] wx (fun e w' => PrNet w0 px gd nn na nb xa xb xn va vb ra rb F1 sp w' (.bool true) e) := by
  obtain ⟨p0, p1, _, _⟩ := h.c
  have hz := h.bp.lt
  have hc := ndeliver_any h.nt hsp hF i hE
  obtain ⟨en, pq, hde, hen⟩ : ∃ en pq, delN F sp i = (pq, en) ∧ (en = 4 ∨ en = 10) := by
    unfold delN
    split
    · rename_i hin
      rcases hi with hi | rfl
      · exact absurd hin hi
      · exact ⟨10, _, rfl, .inr rfl⟩
    · exact ⟨4, _, rfl, .inl rfl⟩
  rw [hde, hF1] at hc
  obtain ⟨pa, pb, ps⟩ := pq
  have P0 := hid h
  have HC := hid hc
  clear h hc hE hde hi hF1 hsp
  go_enter Tryd.func37, Tryd.ntmps37
  go_wp2_with fail
  refine HC.out.mono ?_
  rintro e w1 ⟨x, vn1, rfl, rfl, N1, C1, _⟩
  have P1 := hid ((P0.out.net N1 C1).alloc (Obj.cells (pkv (pa, pb, ps)) 76))
  clear N1 C1 HC P0 p0 p1
  rcases hen with rfl | rfl
  all_goals
    go_wp2_with fail
    go_ret
    exact ⟨rfl, vn1, P1.out⟩
set_option maxRecDepth 100000 in
set_option maxHeartbeats 4000000 in
theorem parrive_0 (h : Pr w0 px gd nn na nb xa xb xn va vb vn ra rb F 0 wx) (hF : F.length ≤ 500) (hE : ∀ p ∈ F, Ends p.1 p.2.1) (he : Env w0) (k : Nat) (hk : k < F.length) (pk pi pn : Int) (i1 : I64 pk) (i2 : I64 pi) (i3 : I64 pn)
    (hp : F[k] = (1, 0, bs (encP (pk, pi, pn)))) (take : Bool) (F1 : List Pk) (hF1 : F.eraseIdx k = F1) (ra' : List Rob) (aa ab ac : Int) (is : Bool) (ja : I64 aa) (jb : I64 ab) (jc : I64 ac) (hh : hearL ra (pk, pi, pn) take = (ra', (aa, ab, ac), is, 0)) :
    Calls Tryd.prog 37 #[.pointer (some ⟨px, 0, none⟩), .int .i64 k, .bool take] wx (fun e w' => PrNet w0 px gd nn na nb xa xb xn va vb ra' rb (if is then sendN F1 0 (0, 1 - 0, bs (encP (aa, ab, ac))) else F1) 0 w' (.bool true) e) := by
  obtain ⟨p0, p1, _, _⟩ := h.c
  have hz := h.bp.lt
  have hc := ndeliver_any h.nt (.inl rfl) hF k hE
  rw [dropN_yes hk, show delN F 0 (k : Int) = ((1, 0, bs (encP (pk, pi, pn))), 0) by unfold delN; rw [if_pos ⟨by omega, by omega⟩, if_pos rfl, getN_yes hk, hp], hF1] at hc
  have P0 := hid h
  have HC := hid hc
  have hel := hid (show F1.length ≤ 500 by rw [← hF1, List.length_eraseIdx_of_lt hk]; omega)
  have HH := hid hh
  clear h hc hE hh hp hF1
  go_enter Tryd.func37, Tryd.ntmps37
  go_wp2_with fail
  refine HC.out.mono ?_
  rintro e w1 ⟨x, vn1, rfl, rfl, N1, C1, _⟩
  have P1 := hid (P0.out.net N1 C1)
  have sz1 := hid C1.size
  clear N1 C1 HC P0 p0 p1
  have P2 := hid (P1.out.alloc (Obj.cells (pkv (1, 0, bs (encP (pk, pi, pn)))) 76))
  have x7 := hid (Blk.new w1 76 (pkv (1, 0, bs (encP (pk, pi, pn)))))
  have hl7 := hid P1.out.below.size
  have sz2 := hid (show wx.heap.size ≤ (w1.alloc (Obj.cells (pkv (1, 0, bs (encP (pk, pi, pn)))) 76)).heap.size by simp; have := sz1.out; omega)
  clear P1 sz1
  go_wp2_with fail
  have hr := rpass_any (bs (encP (pk, pi, pn))) (w1.alloc (Obj.cells (pkv (1, 0, bs (encP (pk, pi, pn)))) 76)) (by have := encP_len (pk, pi, pn) i1 i2 i3; omega) (he.below P2.out.below)
  rw [show (bs (encP (pk, pi, pn))).data.toList = encP (pk, pi, pn) by simp [bs], rp_encPn (pk, pi, pn) i1 i2 i3] at hr
  refine hr.mono ?_
  clear hr
  rintro e w3 ⟨rfl, hB3⟩
  have P4 := hid ((P2.out.step hB3).alloc (Obj.cells (pasv (pk, pi, pn)) 27))
  have x74 := hid ((x7.out.below hB3 x7.out.lt).alloc (Obj.cells (pasv (pk, pi, pn)) 27))
  have x94 := hid (Blk.new w3 27 (pasv (pk, pi, pn)))
  have sz4 := hid (show wx.heap.size ≤ (w3.alloc (Obj.cells (pasv (pk, pi, pn)) 27)).heap.size by have := sz2.out; have := hB3.size; simp at *; omega)
  have y0 := (x7.out.below hB3 x7.out.lt).cell 1; have yz := (x7.out.below hB3 x7.out.lt).lt
  simp at y0
  clear hB3 P2 x7 sz2
  generalize w1.heap.size = g7 at *
  go_upto_region 7 with fail
  clear y0 yz
  generalize hw4 : w3.alloc (Obj.cells (pasv (pk, pi, pn)) 27) = w4 at P4 x74 x94 sz4
  simp only [pasv] at hw4
  (try rw [hw4])
  clear hw4
  generalize w3.heap.size = g9 at *
  obtain ⟨p0, p1, e0, e1⟩ := P4.out.c
  have zp := P4.out.bp.lt; have zd := P4.out.bd.lt; have z7 := x74.out.lt; have z9 := x94.out.lt
  have b0 := x74.out.cell 1; have c0 := x94.out.cell 0; have c1 := x94.out.cell 1; have c2 := x94.out.cell 2
  simp at b0 c0 c1 c2
  have cH := hid (fun (W : World) (hW : Pr w0 px gd nn na nb xa xb xn va vb vn1 ra rb F1 0 W) => show Calls Tryd.prog 22 #[.pointer (some ⟨na, 0, none⟩), .agg #[.int .i64 pk, .int .i64 pi, .int .i64 pn], .bool take] W (fun e w' => e = .returned (.tuple #[.agg #[.int .i64 aa, .int .i64 ab, .int .i64 ac], .bool is, .int .i64 0]) ∧ Pr w0 px gd nn na nb xa xb xn va vb vn1 ra' rb F1 0 w' ∧ W.heap.size ≤ w'.heap.size ∧ ∀ g t cs, t ≠ 85 → Blk W g t cs → Blk w' g t cs) from by
    have h1 := hear_any hW.da pk pi pn take
    rw [HH.out] at h1
    refine h1.mono ?_
    rintro e w' ⟨h2, h3, h4⟩
    exact ⟨h2, hW.a h3 h4, h4.size, fun g t cs ht hb => hb.grown h4 (fun e => own_blk_ne hW.da.r hb (fun e => ht e.symm) e.symm)⟩)
  clear HH
  go_cut [11, 12, 13] (fun s11 s12 s13 wz => CutA w0 px gd nn na nb xa xb xn va vb vn1 ra' rb F1 0 g7 (pkv (1, 0, bs (encP (pk, pi, pn)))) (aa, ab, ac) is s11 s12 s13 wz)
  case first =>
    have hl4 := hid P4.out.below.size
    have n9 := x94.out
    go_region_held3 (fun w' => w'.cell? ⟨px, 0, none⟩ = some (.slice (some ⟨gd, 0, none⟩) 2 2) ∧ w'.cell? ⟨gd, 0, none⟩ = some (.pointer (some ⟨na, 0, none⟩)) ∧ w'.cell? ⟨gd, 1, none⟩ = some (.pointer (some ⟨nb, 0, none⟩)) ∧ w'.cell? ⟨g7, 1, none⟩ = some (.int .i64 0) ∧ w'.cell? ⟨g9, 0, none⟩ = some (.int .i64 pk) ∧ w'.cell? ⟨g9, 1, none⟩ = some (.int .i64 pi) ∧ w'.cell? ⟨g9, 2, none⟩ = some (.int .i64 pn))
      (first | assumption | go_keep | (go_split_ands; refine ⟨?_, ?_, ?_, ?_, ?_, ?_, ?_⟩ <;> (rw [World.cell?_setCell_far _ _ _ _ (by (try simp); (try omega)), World.cell?_setCell_far _ _ _ _ (by (try simp); (try omega)), World.cell?_setCell_far _ _ _ _ (by (try simp); (try omega))]; assumption)))
      (first
      | (go_at_call 22; (with_reducible refine (cH.out _ ?_).mono ?_); (repeat (first | with_reducible exact P4.out | with_reducible refine Pr.drew ?_ | with_reducible refine Pr.alloc ?_ _)); rintro e w5 ⟨rfl, P5, s5, k5⟩; obtain ⟨t0, _, t2, t3⟩ := P5.c; have q7 := k5 g7 76 (pkv (1, 0, bs (encP (pk, pi, pn)))) (by decide) (by (repeat (first | with_reducible exact x74.out | with_reducible refine Blk.drew ?_ | with_reducible refine Blk.alloc ?_ _))); have q9 := k5 g9 27 (pasv (pk, pi, pn)) (by decide) (by (repeat (first | with_reducible exact x94.out | with_reducible refine Blk.drew ?_ | with_reducible refine Blk.alloc ?_ _))); have t4 := q7.cell 1; have t5 := q9.cell 0; have t6 := q9.cell 1; have t7 := q9.cell 2; simp at t4 t5 t6 t7; (first | (with_reducible have qb := k5 w4.heap.size 27 (pasv (0, 0, 0)) (by decide) (Blk.drew (Blk.new w4 27 (pasv (0, 0, 0)))); have qb0 := qb.cell 0; have qb1 := qb.cell 1; have qb2 := qb.cell 2; have qf0 := qb.frozen 0; have qf1 := qb.frozen 1; have qf2 := qb.frozen 2; have qz := qb.lt; simp at qb0 qb1 qb2) | skip)))
    all_goals
      have P5' := hid P5
      have q7' := hid q7
      (first | have qb' := hid qb | skip)
      (first | clear qb | skip)
      clear P5 q7 k5
      go_wp2_with fail
      go_meet
      first
        | with_reducible exact cutA_1 (aa, ab, ac) is P5'.out q7'.out
        | with_reducible exact cutA_1 (aa, ab, ac) is P5'.out.drew q7'.out.drew
        | with_reducible exact cutA_2 (aa, ab, ac) is P5'.out q7'.out qb'.out hl4.out
        | with_reducible exact cutA_2 (aa, ab, ac) is P5'.out.drew q7'.out.drew qb'.out.drew hl4.out
  case rest =>
    obtain ⟨g, rfl, rfl, rfl, P5, xg, x75⟩ := hcut
    have p5 := hid P5
    have t1 := x75.cell 1; have t0 := xg.cell 0; have t2 := xg.cell 1; have t3 := xg.cell 2
    simp at t0 t1 t2 t3
    have l7 := x75.lt; have lg := xg.lt
    clear P5 xg x75 p0 p1 e0 e1 zp zd z7 z9 b0 c0 c1 c2 cH
    cases is with
    | true =>
      go_wp2_with fail
      refine (psend_any p5.out (.inl rfl) hel.out he 0 (by simp) aa ab ac ja jb jc).mono ?_
      rintro e w9 ⟨rfl, vn2, P9⟩
      have p9 := hid P9
      clear P9 t0 t1 t2 t3 l7 lg
      go_wp2_with fail
      go_ret
      exact ⟨rfl, vn2, p9.out⟩
    | false =>
      go_wp2_with fail
      go_ret
      exact ⟨rfl, vn1, p5.out⟩
set_option maxRecDepth 100000 in
set_option maxHeartbeats 4000000 in
theorem parrive_1 (h : Pr w0 px gd nn na nb xa xb xn va vb vn ra rb F 0 wx) (hF : F.length ≤ 500) (hE : ∀ p ∈ F, Ends p.1 p.2.1) (he : Env w0) (k : Nat) (hk : k < F.length) (pk pi pn : Int) (i1 : I64 pk) (i2 : I64 pi) (i3 : I64 pn)
    (hp : F[k] = (0, 1, bs (encP (pk, pi, pn)))) (take : Bool) (F1 : List Pk) (hF1 : F.eraseIdx k = F1) (rb' : List Rob) (aa ab ac : Int) (is : Bool) (ja : I64 aa) (jb : I64 ab) (jc : I64 ac) (hh : hearL rb (pk, pi, pn) take = (rb', (aa, ab, ac), is, 0)) :
    Calls Tryd.prog 37 #[.pointer (some ⟨px, 0, none⟩), .int .i64 k, .bool take] wx (fun e w' => PrNet w0 px gd nn na nb xa xb xn va vb ra rb' (if is then sendN F1 0 (1, 1 - 1, bs (encP (aa, ab, ac))) else F1) 0 w' (.bool true) e) := by
  obtain ⟨p0, p1, _, _⟩ := h.c
  have hz := h.bp.lt
  have hc := ndeliver_any h.nt (.inl rfl) hF k hE
  rw [dropN_yes hk, show delN F 0 (k : Int) = ((0, 1, bs (encP (pk, pi, pn))), 0) by unfold delN; rw [if_pos ⟨by omega, by omega⟩, if_pos rfl, getN_yes hk, hp], hF1] at hc
  have P0 := hid h
  have HC := hid hc
  have hel := hid (show F1.length ≤ 500 by rw [← hF1, List.length_eraseIdx_of_lt hk]; omega)
  have HH := hid hh
  clear h hc hE hh hp hF1
  go_enter Tryd.func37, Tryd.ntmps37
  go_wp2_with fail
  refine HC.out.mono ?_
  rintro e w1 ⟨x, vn1, rfl, rfl, N1, C1, _⟩
  have P1 := hid (P0.out.net N1 C1)
  have sz1 := hid C1.size
  clear N1 C1 HC P0 p0 p1
  have P2 := hid (P1.out.alloc (Obj.cells (pkv (0, 1, bs (encP (pk, pi, pn)))) 76))
  have x7 := hid (Blk.new w1 76 (pkv (0, 1, bs (encP (pk, pi, pn)))))
  have hl7 := hid P1.out.below.size
  have sz2 := hid (show wx.heap.size ≤ (w1.alloc (Obj.cells (pkv (0, 1, bs (encP (pk, pi, pn)))) 76)).heap.size by simp; have := sz1.out; omega)
  clear P1 sz1
  go_wp2_with fail
  have hr := rpass_any (bs (encP (pk, pi, pn))) (w1.alloc (Obj.cells (pkv (0, 1, bs (encP (pk, pi, pn)))) 76)) (by have := encP_len (pk, pi, pn) i1 i2 i3; omega) (he.below P2.out.below)
  rw [show (bs (encP (pk, pi, pn))).data.toList = encP (pk, pi, pn) by simp [bs], rp_encPn (pk, pi, pn) i1 i2 i3] at hr
  refine hr.mono ?_
  clear hr
  rintro e w3 ⟨rfl, hB3⟩
  have P4 := hid ((P2.out.step hB3).alloc (Obj.cells (pasv (pk, pi, pn)) 27))
  have x74 := hid ((x7.out.below hB3 x7.out.lt).alloc (Obj.cells (pasv (pk, pi, pn)) 27))
  have x94 := hid (Blk.new w3 27 (pasv (pk, pi, pn)))
  have sz4 := hid (show wx.heap.size ≤ (w3.alloc (Obj.cells (pasv (pk, pi, pn)) 27)).heap.size by have := sz2.out; have := hB3.size; simp at *; omega)
  have y0 := (x7.out.below hB3 x7.out.lt).cell 1; have yz := (x7.out.below hB3 x7.out.lt).lt
  simp at y0
  clear hB3 P2 x7 sz2
  generalize w1.heap.size = g7 at *
  go_upto_region 7 with fail
  clear y0 yz
  generalize hw4 : w3.alloc (Obj.cells (pasv (pk, pi, pn)) 27) = w4 at P4 x74 x94 sz4
  simp only [pasv] at hw4
  (try rw [hw4])
  clear hw4
  generalize w3.heap.size = g9 at *
  obtain ⟨p0, p1, e0, e1⟩ := P4.out.c
  have zp := P4.out.bp.lt; have zd := P4.out.bd.lt; have z7 := x74.out.lt; have z9 := x94.out.lt
  have b0 := x74.out.cell 1; have c0 := x94.out.cell 0; have c1 := x94.out.cell 1; have c2 := x94.out.cell 2
  simp at b0 c0 c1 c2
  have cH := hid (fun (W : World) (hW : Pr w0 px gd nn na nb xa xb xn va vb vn1 ra rb F1 0 W) => show Calls Tryd.prog 22 #[.pointer (some ⟨nb, 0, none⟩), .agg #[.int .i64 pk, .int .i64 pi, .int .i64 pn], .bool take] W (fun e w' => e = .returned (.tuple #[.agg #[.int .i64 aa, .int .i64 ab, .int .i64 ac], .bool is, .int .i64 0]) ∧ Pr w0 px gd nn na nb xa xb xn va vb vn1 ra rb' F1 0 w' ∧ W.heap.size ≤ w'.heap.size ∧ ∀ g t cs, t ≠ 85 → Blk W g t cs → Blk w' g t cs) from by
    have h1 := hear_any hW.db pk pi pn take
    rw [HH.out] at h1
    refine h1.mono ?_
    rintro e w' ⟨h2, h3, h4⟩
    exact ⟨h2, hW.b h3 h4, h4.size, fun g t cs ht hb => hb.grown h4 (fun e => own_blk_ne hW.db.r hb (fun e => ht e.symm) e.symm)⟩)
  clear HH
  go_cut [11, 12, 13] (fun s11 s12 s13 wz => CutA w0 px gd nn na nb xa xb xn va vb vn1 ra rb' F1 0 g7 (pkv (0, 1, bs (encP (pk, pi, pn)))) (aa, ab, ac) is s11 s12 s13 wz)
  case first =>
    have hl4 := hid P4.out.below.size
    have n9 := x94.out
    go_region_held3 (fun w' => w'.cell? ⟨px, 0, none⟩ = some (.slice (some ⟨gd, 0, none⟩) 2 2) ∧ w'.cell? ⟨gd, 0, none⟩ = some (.pointer (some ⟨na, 0, none⟩)) ∧ w'.cell? ⟨gd, 1, none⟩ = some (.pointer (some ⟨nb, 0, none⟩)) ∧ w'.cell? ⟨g7, 1, none⟩ = some (.int .i64 1) ∧ w'.cell? ⟨g9, 0, none⟩ = some (.int .i64 pk) ∧ w'.cell? ⟨g9, 1, none⟩ = some (.int .i64 pi) ∧ w'.cell? ⟨g9, 2, none⟩ = some (.int .i64 pn))
      (first | assumption | go_keep | (go_split_ands; refine ⟨?_, ?_, ?_, ?_, ?_, ?_, ?_⟩ <;> (rw [World.cell?_setCell_far _ _ _ _ (by (try simp); (try omega)), World.cell?_setCell_far _ _ _ _ (by (try simp); (try omega)), World.cell?_setCell_far _ _ _ _ (by (try simp); (try omega))]; assumption)))
      (first
      | (go_at_call 22; (with_reducible refine (cH.out _ ?_).mono ?_); (repeat (first | with_reducible exact P4.out | with_reducible refine Pr.drew ?_ | with_reducible refine Pr.alloc ?_ _)); rintro e w5 ⟨rfl, P5, s5, k5⟩; obtain ⟨t0, _, t2, t3⟩ := P5.c; have q7 := k5 g7 76 (pkv (0, 1, bs (encP (pk, pi, pn)))) (by decide) (by (repeat (first | with_reducible exact x74.out | with_reducible refine Blk.drew ?_ | with_reducible refine Blk.alloc ?_ _))); have q9 := k5 g9 27 (pasv (pk, pi, pn)) (by decide) (by (repeat (first | with_reducible exact x94.out | with_reducible refine Blk.drew ?_ | with_reducible refine Blk.alloc ?_ _))); have t4 := q7.cell 1; have t5 := q9.cell 0; have t6 := q9.cell 1; have t7 := q9.cell 2; simp at t4 t5 t6 t7; (first | (with_reducible have qb := k5 w4.heap.size 27 (pasv (0, 0, 0)) (by decide) (Blk.drew (Blk.new w4 27 (pasv (0, 0, 0)))); have qb0 := qb.cell 0; have qb1 := qb.cell 1; have qb2 := qb.cell 2; have qf0 := qb.frozen 0; have qf1 := qb.frozen 1; have qf2 := qb.frozen 2; have qz := qb.lt; simp at qb0 qb1 qb2) | skip)))
    all_goals
      have P5' := hid P5
      have q7' := hid q7
      (first | have qb' := hid qb | skip)
      (first | clear qb | skip)
      clear P5 q7 k5
      go_wp2_with fail
      go_meet
      first
        | with_reducible exact cutA_1 (aa, ab, ac) is P5'.out q7'.out
        | with_reducible exact cutA_1 (aa, ab, ac) is P5'.out.drew q7'.out.drew
        | with_reducible exact cutA_2 (aa, ab, ac) is P5'.out q7'.out qb'.out hl4.out
        | with_reducible exact cutA_2 (aa, ab, ac) is P5'.out.drew q7'.out.drew qb'.out.drew hl4.out
  case rest =>
    obtain ⟨g, rfl, rfl, rfl, P5, xg, x75⟩ := hcut
    have p5 := hid P5
    have t1 := x75.cell 1; have t0 := xg.cell 0; have t2 := xg.cell 1; have t3 := xg.cell 2
    simp at t0 t1 t2 t3
    have l7 := x75.lt; have lg := xg.lt
    clear P5 xg x75 p0 p1 e0 e1 zp zd z7 z9 b0 c0 c1 c2 cH
    cases is with
    | true =>
      go_wp2_with fail
      refine (psend_any p5.out (.inl rfl) hel.out he 1 (by simp) aa ab ac ja jb jc).mono ?_
      rintro e w9 ⟨rfl, vn2, P9⟩
      have p9 := hid P9
      clear P9 t0 t1 t2 t3 l7 lg
      go_wp2_with fail
      go_ret
      exact ⟨rfl, vn2, p9.out⟩
    | false =>
      go_wp2_with fail
      go_ret
      exact ⟨rfl, vn1, p5.out⟩
end
end Go.Proofs.YtfofmbmmighdiaaDoor
