/- Layouts: the law on ranks, walked. -/
import Derived.Test.YtfcihplkaboikaaLayG
namespace Go.Proofs.Ytfcihplkaboikaa
open Go.RowKit Go.IntWalk

set_option maxHeartbeats 1000000 in
theorem ranks_bad (A1 A2 : Option Addr) (c1 c2 : Nat) (l1 l2 : List Bool) (t1 t2 r : Int) (w : World) (hl1 : l1.length ≤ maxLen) (hl2 : l2.length ≤ maxLen) (hs1 : SlR w w.heap.size A1 l1) (hs2 : SlR w w.heap.size A2 l2)
    (hbad : ¬ (rightL l1 t1 = true ∧ rightL l2 t2 = true)) :
    Calls Try.prog 3 #[.agg #[.slice A1 l1.length c1, .int .i64 t1], .agg #[.slice A2 l2.length c2, .int .i64 t2], .int .i64 r] w fun e w' => e = .returned (.bool true) ∧ Below w.heap.size w w' := by
  have hm1 := hl1
  have hm2 := hl2
  unfold maxLen at hl1 hl2
  have S0 := LR.new (c1 := c1) (c2 := c2) (t1 := t1) (t2 := t2) hs1 hs2
  go_enter Try.func3, Try.ntmps3
  go_wp2_with fail
  refine (small_any _).mono ?_
  rintro e w1 ⟨rfl, hB⟩
  have S := S0.step hB
  obtain ⟨k1, k2, k3, k4, k5, k6⟩ := S.cells
  clear hB S0
  by_cases n1 : l1.length ≤ 24
  · by_cases n2 : l2.length ≤ 24
    · go_wp2_with fail
      refine (right_any _ _ _ _ _ hm1 S.sl1).mono ?_
      rintro e w2 ⟨rfl, hB⟩
      replace S := S.step hB
      clear k1 k2 k3 k4 k5 k6 hB
      obtain ⟨k1, k2, k3, k4, k5, k6⟩ := S.cells
      cases h1 : rightL l1 t1 with
      | true =>
        have h2 : rightL l2 t2 = false := by cases h : rightL l2 t2 with | true => exact absurd ⟨h1, h⟩ hbad | false => rfl
        clear hbad
        go_wp2_with fail
        refine (right_any _ _ _ _ _ hm2 S.sl2).mono ?_
        rintro e w3 ⟨rfl, hB⟩
        replace S := S.step hB
        clear k1 k2 k3 k4 k5 k6 hB
        rw [h2]
        go_wp2
        go_ret
        exact ⟨rfl, S.b⟩
      | false =>
        clear hbad h1
        go_wp2
        go_ret
        exact ⟨rfl, S.b⟩
    · go_wp2
      go_ret
      exact ⟨rfl, S.b⟩
  · go_wp2
    go_ret
    exact ⟨rfl, S.b⟩

theorem unrank_no' (n k : Nat) (r : Int) (w : World) (h : r < 0 ∨ countL n k ≤ r) :
    Calls Try.prog 16 #[.int .i64 n, .int .i64 k, .int .i64 r] w fun e w' => e = .returned (.tuple #[.agg #[.slice none 0 0, .int .i64 0], .bool false]) ∧ Below w.heap.size w w' := unrank_no n k r w h

theorem right_n (A : Option Addr) (c n : Nat) (l : List Bool) (t : Int) (w : World) (hn : l.length = n) (hl : l.length ≤ maxLen) (hs : SlR w w.heap.size A l) :
    Calls Try.prog 12 #[.agg #[.slice A n c, .int .i64 t]] w fun e w' => e = .returned (.bool (rightL l t)) ∧ Below w.heap.size w w' := by subst hn; exact right_any A c l t w hl hs
theorem shelves_n (A : Option Addr) (c n : Nat) (l : List Bool) (t : Int) (w : World) (hn : l.length = n) (hl : l.length ≤ maxLen) (hs : SlR w w.heap.size A l) :
    Calls Try.prog 13 #[.agg #[.slice A n c, .int .i64 t]] w fun e w' => e = .returned (.int .i64 (l.count true)) ∧ Below w.heap.size w w' := by subst hn; exact shelves_any A c l t w hl hs
theorem rank_n (A : Option Addr) (c n : Nat) (l : List Bool) (t : Nat) (w : World) (hn : l.length = n) (hs : SlR w w.heap.size A l) (hr : RightN l t) :
    Calls Try.prog 15 #[.agg #[.slice A n c, .int .i64 t]] w fun e w' => e = .returned (.int .i64 (rankN l t)) ∧ Below w.heap.size w w' := by subst hn; exact rank_any A c l t w hs hr

set_option maxHeartbeats 2000000 in
theorem ranks_good (A1 A2 : Option Addr) (c1 c2 : Nat) (l1 l2 : List Bool) (t1 t2 : Nat) (r : Int) (w : World) (hs1 : SlR w w.heap.size A1 l1) (hs2 : SlR w w.heap.size A2 l2) (hR1 : RightN l1 t1) (hR2 : RightN l2 t2) :
    Calls Try.prog 3 #[.agg #[.slice A1 l1.length c1, .int .i64 t1], .agg #[.slice A2 l2.length c2, .int .i64 t2], .int .i64 r] w fun e w' => e = .returned (.bool true) ∧ Below w.heap.size w w' := by
  have n1 := hR1.2.1
  have n2 := hR2.2.1
  have hm1 : l1.length ≤ maxLen := by unfold maxLen; omega
  have hm2 : l2.length ≤ maxLen := by unfold maxLen; omega
  have S0 := LR.new (c1 := c1) (c2 := c2) (t1 := t1) (t2 := t2) hs1 hs2
  have r1 := hid (rightL_of hR1)
  have r2 := hid (rightL_of hR2)
  have q1 := hR1.count
  obtain ⟨N, hN⟩ : ∃ N, N = l1.length * binom (l1.length - 1) (l1.count true - 1) := ⟨_, rfl⟩
  have HN := hid hN
  have hcnt := countL_of hR1
  rw [← hN] at hcnt
  have hrk := rankN_lt hR1
  have hdiv := hid (rankN_div hR1)
  have hunr := hid (unrank_rankN hR1)
  obtain ⟨q1a, q1b, _, _⟩ := q1
  have hcb := binom_le (l1.length - 1) (l1.count true - 1) (by omega)
  have hnb := Nat.mul_le_mul n1 hcb
  have m1 : 1 ≤ l1.length := hR1.1
  rw [← hN] at hnb
  have hrk' : rankN l1 t1 < N := by rw [hN]; exact hrk
  have Hcnt := hid hcnt
  have Hrk := hid hrk
  clear hcnt hN hrk
  go_enter Try.func3, Try.ntmps3
  go_wp2_with fail
  refine (small_any _).mono ?_
  rintro e w1 ⟨rfl, hB⟩
  have S := S0.step hB
  obtain ⟨k1, k2, k3, k4, k5, k6⟩ := S.cells
  clear hB S0
  go_wp2_with fail
  refine (right_any _ _ _ _ _ hm1 S.sl1).mono ?_
  rintro e w2 ⟨rfl, hB⟩
  replace S := S.step hB
  clear k1 k2 k3 k4 k5 k6 hB
  obtain ⟨k1, k2, k3, k4, k5, k6⟩ := S.cells
  rw [r1.out]
  go_wp2_with fail
  refine (right_any _ _ _ _ _ hm2 S.sl2).mono ?_
  rintro e w3 ⟨rfl, hB⟩
  replace S := S.step hB
  clear k1 k2 k3 k4 k5 k6 hB
  obtain ⟨k1, k2, k3, k4, k5, k6⟩ := S.cells
  rw [r2.out]
  go_wp2_with fail
  refine (shelves_any _ _ _ _ _ hm1 S.sl1).mono ?_
  rintro e w4 ⟨rfl, hB⟩
  replace S := S.step hB
  clear k1 k2 k3 k4 k5 k6 hB
  obtain ⟨k1, k2, k3, k4, k5, k6⟩ := S.cells
  go_wp2_with fail
  refine (count_any _ _ _).mono ?_
  rintro e w5 ⟨rfl, hB⟩
  replace S := S.step hB
  clear k1 k2 k3 k4 k5 k6 hB
  obtain ⟨k1, k2, k3, k4, k5, k6⟩ := S.cells
  rw [Hcnt.out]
  go_wp2_with fail
  refine (rank_any _ _ _ _ _ S.sl1 hR1).mono ?_
  rintro e w6 ⟨rfl, hB⟩
  replace S := S.step hB
  clear k1 k2 k3 k4 k5 k6 hB
  obtain ⟨k1, k2, k3, k4, k5, k6⟩ := S.cells
  go_wp2_with fail
  refine (unrank_yes _ _ _ _ m1 n1 q1a q1b Hrk.out).mono ?_
  rintro e w7 ⟨g, rfl, hg, hB⟩
  replace S := S.step hB
  clear k1 k2 k3 k4 k5 k6 hB
  obtain ⟨k1, k2, k3, k4, k5, k6⟩ := S.cells
  rw [hdiv.out.1]
  rw [hunr.out] at hg
  have hsame : sameL l1 l1 t1 t1 = true := by simp [sameL]
  go_wp2_with fail
  refine (same_any _ _ _ _ _ _ _ _ _ hm1 hm1 ((hg.alloc (Nat.le_refl _) _).more (by simp)) (S.alloc _).sl1).mono ?_
  rintro e w8 ⟨rfl, hB⟩
  replace S := (S.alloc _).step hB
  clear k1 k2 k3 k4 k5 k6 hB hg
  obtain ⟨k1, k2, k3, k4, k5, k6⟩ := S.cells
  rw [hsame]
  clear hsame
  by_cases hr : 0 ≤ r ∧ r < (N : Int)
  · obtain ⟨hr0, hr1⟩ := hr
    obtain ⟨x, rfl⟩ := Int.eq_ofNat_of_zero_le hr0
    have hx : x < l1.length * binom (l1.length - 1) (l1.count true - 1) := by rw [← HN.out]; omega
    obtain ⟨f1, f2, f3, f4, _⟩ := unrankN_facts m1 n1 q1a q1b hx
    have f1' := hid (rightL_of f1)
    have Hx := hid hx
    clear hx
    go_wp2_with fail
    refine (unrank_yes _ _ _ _ m1 n1 q1a q1b Hx.out).mono ?_
    rintro e w9 ⟨g, rfl, hg, hB⟩
    replace S := S.step hB
    clear k1 k2 k3 k4 k5 k6 hB
    obtain ⟨k1, k2, k3, k4, k5, k6⟩ := S.cells
    obtain ⟨m, hm⟩ : ∃ m, m = unrankN l1.length (l1.count true) x := ⟨_, rfl⟩
    obtain ⟨tm, htm⟩ : ∃ tm, tm = x / binom (l1.length - 1) (l1.count true - 1) := ⟨_, rfl⟩
    rw [← hm] at f1 f1' f2 f3 f4 hg
    rw [← htm] at f1 f1' f4
    rw [← htm]
    clear hm htm
    have F2 := hid f2
    have F3 := hid f3
    have F4 := hid f4
    have hml : m.length ≤ maxLen := by omega
    clear f2 f3 f4
    go_wp2_with fail
    obtain ⟨gB, hgB⟩ : ∃ gB, gB = w9.heap.size := ⟨_, rfl⟩
    have HG : Blk (w9.alloc (Obj.cells #[Value.slice (some ⟨g, 0, none⟩) l1.length l1.length, Value.int IntKind.i64 tm] 24)) gB 24 #[Value.slice (some ⟨g, 0, none⟩) l1.length l1.length, Value.int IntKind.i64 tm] := Blk.new_at hgB
    replace S := S.alloc (Obj.cells #[Value.slice (some ⟨g, 0, none⟩) l1.length l1.length, Value.int IntKind.i64 tm] 24)
    replace hg : SlR (w9.alloc (Obj.cells #[Value.slice (some ⟨g, 0, none⟩) l1.length l1.length, Value.int IntKind.i64 tm] 24)) (w9.heap.size + 1) (some ⟨g, 0, none⟩) m := (hg.alloc (Nat.le_refl _) _).more (by simp)
    clear k1 k2 k3 k4 k5 k6
    rw [← hgB]
    rw [← hgB] at hg
    generalize (w9.alloc (Obj.cells #[Value.slice (some ⟨g, 0, none⟩) l1.length l1.length, Value.int IntKind.i64 tm] 24)) = v0 at *
    clear hgB
    have c1' := HG.cell 0
    have c2' := HG.cell 1
    simp only [List.getElem?_toArray, List.getElem?_cons_zero, List.getElem?_cons_succ] at c1' c2'
    refine (right_n _ _ _ _ _ _ F2.out hml (hg.more HG.lt)).mono ?_
    rintro e v1 ⟨rfl, hB⟩
    replace S := S.step hB
    replace hg := hg.below (hB.mono HG.lt)
    replace HG := HG.below hB HG.lt
    clear hB c1' c2'
    have c1' := HG.cell 0
    have c2' := HG.cell 1
    simp only [List.getElem?_toArray, List.getElem?_cons_zero, List.getElem?_cons_succ] at c1' c2'
    rw [f1'.out]
    go_wp2_with fail
    refine (shelves_n _ _ _ _ _ _ F2.out hml (hg.more HG.lt)).mono ?_
    rintro e v2 ⟨rfl, hB⟩
    replace S := S.step hB
    replace hg := hg.below (hB.mono HG.lt)
    replace HG := HG.below hB HG.lt
    clear hB c1' c2'
    have c1' := HG.cell 0
    have c2' := HG.cell 1
    simp only [List.getElem?_toArray, List.getElem?_cons_zero, List.getElem?_cons_succ] at c1' c2'
    rw [F3.out]
    go_wp2_with fail
    refine (rank_n _ _ _ _ _ _ F2.out (hg.more HG.lt) f1).mono ?_
    rintro e v3 ⟨rfl, hB⟩
    replace S := S.step hB
    clear hB c1' c2'
    rw [F4.out]
    obtain ⟨k1, k2, k3, k4, k5, k6⟩ := S.cells
    by_cases d1 : l2.length = l1.length
    · have e1 : ((l2.length : Int) != (l1.length : Int)) = false := by simp [d1]
      have D1 := hid d1
      clear d1
      go_wp2_with fail
      refine (shelves_any _ _ _ _ _ hm2 S.sl2).mono ?_
      rintro e wA ⟨rfl, hB⟩
      replace S := S.step hB
      clear k1 k2 k3 k4 k5 k6 hB
      obtain ⟨k1, k2, k3, k4, k5, k6⟩ := S.cells
      by_cases d2 : l2.count true = l1.count true
      · have e2 : ((l2.count true : Int) != (l1.count true : Int)) = false := by simp [d2]
        have D2 := hid d2
        have hbf := hid (rankN_before hR1 hR2 D1.out.symm d2.symm)
        have hsm := rankN_same hR1 hR2 D1.out.symm d2.symm
        have hsm' : Hid (((rankN l1 t1 : Int) == (rankN l2 t2 : Int)) = sameL l1 l2 t1 t2) := by rw [← hsm]; rfl
        clear d2 hsm
        go_wp2_with fail
        refine (rank_any _ _ _ _ _ S.sl2 hR2).mono ?_
        rintro e wB ⟨rfl, hB⟩
        replace S := S.step hB
        clear k1 k2 k3 k4 k5 k6 hB
        obtain ⟨k1, k2, k3, k4, k5, k6⟩ := S.cells
        go_wp2_with fail
        refine (before_any _ _ _ _ _ _ _ _ _ hm1 hm2 S.sl1 S.sl2).mono ?_
        rintro e wC ⟨rfl, hB⟩
        replace S := S.step hB
        clear k1 k2 k3 k4 k5 k6 hB
        obtain ⟨k1, k2, k3, k4, k5, k6⟩ := S.cells
        rw [← hbf.out]
        go_wp2_with fail
        refine (same_any _ _ _ _ _ _ _ _ _ hm1 hm2 S.sl1 S.sl2).mono ?_
        rintro e wD ⟨rfl, hB⟩
        replace S := S.step hB
        clear k1 k2 k3 k4 k5 k6 hB
        rw [← hsm'.out]
        go_wp2
        go_ret
        exact ⟨ret_bool (by simp), S.b⟩
      · have e2 : ((l2.count true : Int) != (l1.count true : Int)) = true := by simp; omega
        clear d2
        go_wp2
        go_ret
        exact ⟨rfl, S.b⟩
    · have e1 : ((l2.length : Int) != (l1.length : Int)) = true := by simp; omega
      clear d1
      go_wp2
      go_ret
      exact ⟨rfl, S.b⟩
  · have hr' : r < 0 ∨ countL l1.length (l1.count true) ≤ r := by rw [Hcnt.out]; omega
    go_wp2_with fail
    refine (unrank_no _ _ _ _ hr').mono ?_
    rintro e w9 ⟨rfl, hB⟩
    replace S := S.step hB
    clear k1 k2 k3 k4 k5 k6 hB
    obtain ⟨k1, k2, k3, k4, k5, k6⟩ := S.cells
    clear hr'
    replace S := S.alloc (Obj.cells #[Value.slice none 0 0, Value.int IntKind.i64 0] 24)
    by_cases r0 : r < 0
    · by_cases d1 : l2.length = l1.length
      · have e1 : ((l2.length : Int) != (l1.length : Int)) = false := by simp [d1]
        have D1 := hid d1
        clear d1
        go_wp2_with fail
        refine (shelves_any _ _ _ _ _ hm2 S.sl2).mono ?_
        rintro e wA ⟨rfl, hB⟩
        replace S := S.step hB
        clear k1 k2 k3 k4 k5 k6 hB
        obtain ⟨k1, k2, k3, k4, k5, k6⟩ := S.cells
        by_cases d2 : l2.count true = l1.count true
        · have e2 : ((l2.count true : Int) != (l1.count true : Int)) = false := by simp [d2]
          have D2 := hid d2
          have hbf := hid (rankN_before hR1 hR2 D1.out.symm d2.symm)
          have hsm := rankN_same hR1 hR2 D1.out.symm d2.symm
          have hsm' : Hid (((rankN l1 t1 : Int) == (rankN l2 t2 : Int)) = sameL l1 l2 t1 t2) := by rw [← hsm]; rfl
          clear d2 hsm
          go_wp2_with fail
          refine (rank_any _ _ _ _ _ S.sl2 hR2).mono ?_
          rintro e wB ⟨rfl, hB⟩
          replace S := S.step hB
          clear k1 k2 k3 k4 k5 k6 hB
          obtain ⟨k1, k2, k3, k4, k5, k6⟩ := S.cells
          go_wp2_with fail
          refine (before_any _ _ _ _ _ _ _ _ _ hm1 hm2 S.sl1 S.sl2).mono ?_
          rintro e wC ⟨rfl, hB⟩
          replace S := S.step hB
          clear k1 k2 k3 k4 k5 k6 hB
          obtain ⟨k1, k2, k3, k4, k5, k6⟩ := S.cells
          rw [← hbf.out]
          go_wp2_with fail
          refine (same_any _ _ _ _ _ _ _ _ _ hm1 hm2 S.sl1 S.sl2).mono ?_
          rintro e wD ⟨rfl, hB⟩
          replace S := S.step hB
          clear k1 k2 k3 k4 k5 k6 hB
          rw [← hsm'.out]
          go_wp2
          go_ret
          exact ⟨ret_bool (by simp), S.b⟩
        · have e2 : ((l2.count true : Int) != (l1.count true : Int)) = true := by simp; omega
          clear d2
          go_wp2
          go_ret
          exact ⟨rfl, S.b⟩
      · have e1 : ((l2.length : Int) != (l1.length : Int)) = true := by simp; omega
        clear d1
        go_wp2
        go_ret
        exact ⟨rfl, S.b⟩
    · have r1 : (N : Int) ≤ r := by omega
      by_cases d1 : l2.length = l1.length
      · have e1 : ((l2.length : Int) != (l1.length : Int)) = false := by simp [d1]
        have D1 := hid d1
        clear d1
        go_wp2_with fail
        refine (shelves_any _ _ _ _ _ hm2 S.sl2).mono ?_
        rintro e wA ⟨rfl, hB⟩
        replace S := S.step hB
        clear k1 k2 k3 k4 k5 k6 hB
        obtain ⟨k1, k2, k3, k4, k5, k6⟩ := S.cells
        by_cases d2 : l2.count true = l1.count true
        · have e2 : ((l2.count true : Int) != (l1.count true : Int)) = false := by simp [d2]
          have D2 := hid d2
          have hbf := hid (rankN_before hR1 hR2 D1.out.symm d2.symm)
          have hsm := rankN_same hR1 hR2 D1.out.symm d2.symm
          have hsm' : Hid (((rankN l1 t1 : Int) == (rankN l2 t2 : Int)) = sameL l1 l2 t1 t2) := by rw [← hsm]; rfl
          clear d2 hsm
          go_wp2_with fail
          refine (rank_any _ _ _ _ _ S.sl2 hR2).mono ?_
          rintro e wB ⟨rfl, hB⟩
          replace S := S.step hB
          clear k1 k2 k3 k4 k5 k6 hB
          obtain ⟨k1, k2, k3, k4, k5, k6⟩ := S.cells
          go_wp2_with fail
          refine (before_any _ _ _ _ _ _ _ _ _ hm1 hm2 S.sl1 S.sl2).mono ?_
          rintro e wC ⟨rfl, hB⟩
          replace S := S.step hB
          clear k1 k2 k3 k4 k5 k6 hB
          obtain ⟨k1, k2, k3, k4, k5, k6⟩ := S.cells
          rw [← hbf.out]
          go_wp2_with fail
          refine (same_any _ _ _ _ _ _ _ _ _ hm1 hm2 S.sl1 S.sl2).mono ?_
          rintro e wD ⟨rfl, hB⟩
          replace S := S.step hB
          clear k1 k2 k3 k4 k5 k6 hB
          rw [← hsm'.out]
          go_wp2
          go_ret
          exact ⟨ret_bool (by simp), S.b⟩
        · have e2 : ((l2.count true : Int) != (l1.count true : Int)) = true := by simp; omega
          clear d2
          go_wp2
          go_ret
          exact ⟨rfl, S.b⟩
      · have e1 : ((l2.length : Int) != (l1.length : Int)) = true := by simp; omega
        clear d1
        go_wp2
        go_ret
        exact ⟨rfl, S.b⟩

end Go.Proofs.Ytfcihplkaboikaa
