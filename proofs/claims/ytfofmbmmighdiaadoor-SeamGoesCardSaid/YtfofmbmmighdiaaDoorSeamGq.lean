
/- Seam: the first packet arrives, while what brings each robot on is in flight. -/
import Derived.Test.YtfofmbmmighdiaaDoorSeamGp
import Derived.Test.YtfofmbmmighdiaaDoorSeamNj
set_option linter.unusedSimpArgs false
set_option linter.unusedVariables false
namespace Go.Proofs.YtfofmbmmighdiaaDoor
open Go.RowKit Go.IntWalk

theorem hear1_ans {x : Rob} {k n : Int} {t : Bool} (hk : k = 0 ∨ k = 1 ∨ k = 2) (h : 0 ≤ (hear1 x k n t).2.1) : k = 0 ∧ ((hear1 x k n t).2.1 = 1 ∨ (hear1 x k n t).2.1 = 2) := by
  rcases hk with rfl | rfl | rfl
  · refine ⟨rfl, ?_⟩
    have := offeredL_ans x n t
    simp only [hear1, if_true] at h ⊢
    omega
  · simp [hear1] at h
  · simp [hear1] at h
/-- What one side's hearing leaves. -/
theorem side_live {M : Int} {n : Nat} {x y : List Rob} {T : List Pk} {p : Pk} {m : Pas} (hM : 0 ≤ M) (hM2 : M ≤ 1000000) (hn : n ≤ 1000) (ht : Two M x y n) (hm : PkTo x y n m) (a b : Int) (hp : p = (b, a, bs (encP m))) (hab : a ≠ b) (hT : T.length < 500)
    (h : ∀ i : Int, 0 ≤ i → i < n → Live (getR x i) (getR y i) (toS (p :: T) a i) (toS (p :: T) b i)) :
    ∃ x' am is, hearL x m true = (x', am, is, 0) ∧ Stp M x y x' n ∧ (is = true → PkTo y x' n am) ∧ I64 am.1 ∧ I64 am.2.1 ∧ I64 am.2.2 ∧
      (∀ i : Int, 0 ≤ i → i < n → Live (getR x' i) (getR y i) (toS (if is then T ++ [(a, b, bs (encP am))] else T) a i) (toS (if is then T ++ [(a, b, bs (encP am))] else T) b i)) ∧ wtF (if is then T ++ [(a, b, bs (encP am))] else T) + 1 ≤ wtF (p :: T) := by
  obtain ⟨s1, s2, s3⟩ := side_hear hM ht hm true
  obtain ⟨i1, i2, i3⟩ := hm.i64 hM hM2 hn ht
  have hd : dec p = some m := by rw [hp]; exact dec_enc b a m i1 i2 i3
  have hpa : p.2.1 = a := by rw [hp]
  obtain ⟨q0, q1, q2, q3⟩ := hm
  have hx : m.2.1 < x.length := by rw [ht.lx]; exact q1
  have hk := q3.2.2.2
  have heq := hearL_eq q0 hx hk true
  obtain ⟨x', am, is, en, hq⟩ : ∃ x' am is en, hearL x m true = (x', am, is, en) := ⟨_, _, _, _, rfl⟩
  rw [hq] at s1 s2 s3
  simp only at s1 s2 s3
  subst s1
  rw [hq] at heq
  simp only [Prod.mk.injEq] at heq
  obtain ⟨e1, e2, e3, _⟩ := heq
  have hI : I64 am.1 ∧ I64 am.2.1 ∧ I64 am.2.2 := by
    cases is with
    | true => exact (s3 rfl).i64 hM hM2 hn (s2.two ht (Int.le_refl _)).symm
    | false =>
      rw [hearL_zero hq]
      simp [I64]
  refine ⟨x', am, is, hq, s2, s3, hI.1, hI.2.1, hI.2.2, ?_, ?_⟩
  · have hx' : x' = (hearL x m true).1 := by rw [hq]
    rw [hx']
    refine liveAll_hear ht ⟨q0, q1, q2, q3⟩ hd hpa b h hab ?_ ?_
    · intro q hq'
      split
      · exact List.mem_append_left _ hq'
      · exact hq'
    · intro hge
      have his : is = true := by rw [e3]; simpa using hge
      rw [if_pos his]
      refine ⟨(a, b, bs (encP am)), by simp, rfl, ?_⟩
      rw [dec_enc a b am hI.1 hI.2.1 hI.2.2, e2, if_neg (by omega)]
  · rw [wtF_cons]
    cases is with
    | false => rw [if_neg (by decide)]; have := (wtP_pos p).1; omega
    | true =>
      rw [if_pos rfl, wtF_snoc]
      have hge : 0 ≤ (hear1 (getR x m.2.1) m.1 m.2.2 true).2.1 := by simpa using e3.symm
      obtain ⟨k0, k1⟩ := hear1_ans hk hge
      have w1 : wtP p = 2 := by unfold wtP; rw [hd]; simp only; rw [if_pos k0]
      have w2 : wtP (a, b, bs (encP am)) = 1 := by
        unfold wtP
        rw [dec_enc a b am hI.1 hI.2.1 hI.2.2]
        have ea : am.1 = (hear1 (getR x m.2.1) m.1 m.2.2 true).2.1 := by rw [e2, if_neg (show ¬ (hear1 (getR x m.2.1) m.1 m.2.2 true).2.1 < 0 by omega)]
        simp only
        rw [if_neg (show ¬ am.1 = 0 by omega)]
      omega
/-- What the loop of deliveries keeps. -/
structure Gl (M : Int) (n : Nat) (ra rb : List Rob) (F : List Pk) : Prop where
  i : Inv M n ra rb F 0
  l : LiveAll n ra rb F
theorem sendN_all {T : List Pk} {p : Pk} (h : T.length < 500) : sendN T 0 p = T ++ [p] := by unfold sendN; rw [if_pos ⟨rfl, h⟩]
theorem wrapNo : (1 : Int) - 0 = 1 ∧ (1 : Int) - 1 = 0 := ⟨rfl, rfl⟩
theorem arrive_live {M : Int} {n : Nat} {w0 wx : World} {px : Nat} {ra rb : List Rob} {p : Pk} {T : List Pk} (hM0 : 0 ≤ M) (hM1 : M ≤ 1000) (hn : n ≤ 100) (he : Env w0) (hP : PairR w0 px ra rb (p :: T) 0 wx) (hG : Gl M n ra rb (p :: T)) (hT : T.length < 500) :
    Calls Tryd.prog 37 #[.pointer (some ⟨px, 0, none⟩), .int .i64 0, .bool true] wx (fun e w' => e = .returned (.bool true) ∧ ∃ ra' rb' F', PairR w0 px ra' rb' F' 0 w' ∧ Gl M n ra' rb' F' ∧ wtF F' + 1 ≤ wtF (p :: T)) := by
  obtain ⟨gd, nn, na, nb, xa, xb, xn, va, vb, vn, h⟩ := hP
  obtain ⟨hI, hL⟩ := hG
  have hE : ∀ p' ∈ p :: T, Ends p'.1 p'.2.1 := fun p' hp => (hI.f p' hp).ends
  obtain ⟨⟨pk, pi, pn⟩, hb, hto⟩ := hI.f p (by simp)
  rcases hto with ⟨e1, e2, ht⟩ | ⟨e1, e2, ht⟩
  · have hp : p = (1, 0, bs (encP (pk, pi, pn))) := by rw [← hb, ← e1, ← e2]
    obtain ⟨i1, i2, i3⟩ := ht.i64 hM0 (by omega) (by omega) hI.t
    obtain ⟨ra', ⟨aa, ab, ac⟩, is, hq, st, ha, j1, j2, j3, hl, hw⟩ := side_live (T := T) hM0 (by omega) (by omega) hI.t ht 0 1 hp (by decide) hT (fun i h0 h1 => hL i h0 h1)
    refine (parrive_0 h hI.l hE he 0 (by simp) pk pi pn i1 i2 i3 (by simpa using hp) true T (by simp) ra' aa ab ac is j1 j2 j3 hq).mono ?_
    rintro e w' ⟨rfl, vn', P'⟩
    rw [sendN_all hT] at P'
    refine ⟨rfl, ra', rb, _, ⟨_, _, _, _, _, _, _, _, _, _, P'⟩, ⟨⟨st.two hI.t (Int.le_refl _), ?_, ?_, .inl rfl⟩, fun i h0 h1 => hl i h0 h1⟩, hw⟩
    · intro q hq'
      split at hq'
      · rename_i his
        rcases List.mem_append.1 hq' with hq' | hq'
        · exact st.pkA (hI.f q (by simp [hq']))
        · simp only [List.mem_cons, List.not_mem_nil, or_false] at hq'
          rw [hq']
          exact pk_ab (ha his)
      · exact st.pkA (hI.f q (by simp [hq']))
    · split
      · simp; omega
      · omega
  · have hp : p = (0, 1, bs (encP (pk, pi, pn))) := by rw [← hb, ← e1, ← e2]
    obtain ⟨i1, i2, i3⟩ := ht.i64 hM0 (by omega) (by omega) hI.t.symm
    have hLs : ∀ i : Int, 0 ≤ i → i < n → Live (getR rb i) (getR ra i) (toS (p :: T) 1 i) (toS (p :: T) 0 i) := fun i h0 h1 => (hL i h0 h1).elim .inr .inl
    obtain ⟨rb', ⟨aa, ab, ac⟩, is, hq, st, ha, j1, j2, j3, hl, hw⟩ := side_live (T := T) hM0 (by omega) (by omega) hI.t.symm ht 1 0 hp (by decide) hT hLs
    refine (parrive_1 h hI.l hE he 0 (by simp) pk pi pn i1 i2 i3 (by simpa using hp) true T (by simp) rb' aa ab ac is j1 j2 j3 hq).mono ?_
    rintro e w' ⟨rfl, vn', P'⟩
    rw [sendN_all hT] at P'
    refine ⟨rfl, ra, rb', _, ⟨_, _, _, _, _, _, _, _, _, _, P'⟩, ⟨⟨(st.two hI.t.symm (Int.le_refl _)).symm, ?_, ?_, .inl rfl⟩, fun i h0 h1 => (hl i h0 h1).elim .inr .inl⟩, hw⟩
    · intro q hq'
      split at hq'
      · rename_i his
        rcases List.mem_append.1 hq' with hq' | hq'
        · exact st.pkB (hI.f q (by simp [hq']))
        · simp only [List.mem_cons, List.not_mem_nil, or_false] at hq'
          rw [hq']
          exact pk_ba (ha his)
      · exact st.pkB (hI.f q (by simp [hq']))
    · split
      · simp; omega
      · omega
end Go.Proofs.YtfofmbmmighdiaaDoor
