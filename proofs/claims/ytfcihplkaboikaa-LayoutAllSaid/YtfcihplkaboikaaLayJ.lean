/- Layouts: the law on all layouts, walked. -/
import Derived.Test.YtfcihplkaboikaaLayH
namespace Go.Proofs.Ytfcihplkaboikaa
open Go.RowKit Go.IntWalk

def pc : Nat → Nat → Nat
  | 0, _ => 0
  | i+1, y => pc i y + y / 2^i % 2
def cntTo (n : Nat) (k : Int) : Nat → Nat
  | 0 => 0
  | y+1 => cntTo n k y + if (pc n y : Int) = k then 1 else 0
theorem pc_le (i y : Nat) : pc i y ≤ i := by
  induction i with
  | zero => exact Nat.le_refl _
  | succ i ih => simp only [pc]; omega
theorem cntTo_le (n : Nat) (k : Int) (y : Nat) : cntTo n k y ≤ y := by
  induction y with
  | zero => exact Nat.le_refl _
  | succ y ih => simp only [cntTo]; split <;> omega
theorem cntTo_zero (n : Nat) (k : Int) (h : ¬ (0 ≤ k ∧ k ≤ n)) (y : Nat) : cntTo n k y = 0 := by
  induction y with
  | zero => rfl
  | succ y ih => have := pc_le n y; simp only [cntTo, ih]; rw [if_neg (by omega)]
theorem cnt_small : ∀ n, n < 8 → ∀ k : Nat, k < 8 → 1 ≤ n → ((k : Int) * (cntTo n k (2^n) : Int) = countL n k) := by decide +kernel
theorem cnt_all (n : Nat) (k : Int) (h1 : 1 ≤ n) (h7 : n ≤ 7) : k * (cntTo n k (2^n) : Int) = countL n k := by
  by_cases h : 0 ≤ k ∧ k ≤ n
  · obtain ⟨m, rfl⟩ := Int.eq_ofNat_of_zero_le h.1
    exact cnt_small n (by omega) m (by omega) h1
  · rw [cntTo_zero n k h]
    unfold countL
    rw [if_neg (by omega)]; simp
theorem band1 (y i : Nat) (hy : y ≤ 128) : bits .and .i64 ((y:Int) / 2^i) 1 = ((y / 2^i % 2 : Nat) : Int) := by
  have h : y / 2^i ≤ y := Nat.div_le_self _ _
  have e : ((y:Int) / 2^i) = ((y / 2^i : Nat) : Int) := by simp
  rw [e, show (1:Int) = ((1:Nat):Int) from rfl, i64_and_nat _ _ (by omega) (by omega), Nat.and_one_is_mod]

/-- The world of the last loop: the box of the layout that came last, and its cells. -/
def LastW (w wr : World) (gL n k i : Nat) : Prop :=
  Below w.heap.size w wr ∧ w.heap.size ≤ gL ∧ gL < wr.heap.size ∧ wr.frozen? ⟨gL, 0, none⟩ = false ∧ wr.frozen? ⟨gL, 1, none⟩ = false ∧ (∃ (A' : Option Addr) (n' c' : Nat) (v : Value), wr.cell? ⟨gL, 0, none⟩ = some (.slice A' n' c') ∧ wr.cell? ⟨gL, 1, none⟩ = some v) ∧
  (0 < i → ∃ g, wr.cell? ⟨gL, 0, none⟩ = some (.slice (some ⟨g, 0, none⟩) n n) ∧ wr.cell? ⟨gL, 1, none⟩ = some (.int .i64 ((i - 1) / binom (n-1) (k-1) : Nat)) ∧ SlR wr wr.heap.size (some ⟨g, 0, none⟩) (unrankN n k (i - 1)))
theorem LastW.step {w wr wj : World} {gL n k i : Nat} (h : LastW w wr gL n k i) (hb : Below wr.heap.size wr wj) : LastW w wj gL n k i := by
  obtain ⟨h1, h2, h3, h4, h5, ⟨A', n', c', v, h6, h7⟩, h8⟩ := h
  have c := bcell hb
  have f := bfrozen hb
  refine ⟨h1.trans (hb.mono h1.size), h2, Nat.lt_of_lt_of_le h3 hb.size, by rw [f _ _ h3]; exact h4, by rw [f _ _ h3]; exact h5, ⟨A', n', c', v, by rw [c _ _ h3]; exact h6, by rw [c _ _ h3]; exact h7⟩, fun hi => ?_⟩
  obtain ⟨g, g1, g2, g3⟩ := h8 hi
  exact ⟨g, by rw [c _ _ h3]; exact g1, by rw [c _ _ h3]; exact g2, (g3.below hb).more hb.size⟩
theorem slr_far {w : World} {B g : Nat} {l : List Bool} (hs : SlR w B (some ⟨g, 0, none⟩) l) {p : Addr} (hp : g ≠ p.block) (u : Value) : SlR (w.setCell p u) B (some ⟨g, 0, none⟩) l := by
  intro k x hx
  obtain ⟨b, off, es, hA, hb, hl, hc, hr⟩ := hs k x hx
  simp only [Option.some.injEq, Addr.mk.injEq] at hA
  obtain ⟨rfl, rfl, _⟩ := hA
  exact ⟨g, 0, es, rfl, hb, hl, fun j v hv => by rw [cell_kept (w := w) (Below.heap_setCell w p u _ hp)]; exact hc j v hv, hr⟩
theorem LastW.next {w wr : World} {gL n k i g tm : Nat} {L : List Bool} (h : LastW w wr gL n k i) (hg : SlR wr wr.heap.size (some ⟨g, 0, none⟩) L) (hL : L = unrankN n k i) (ht : tm = i / binom (n-1) (k-1)) (hne : g ≠ gL) :
    LastW w ((wr.setCell ⟨gL, 0, none⟩ (.slice (some ⟨g, 0, none⟩) n n)).setCell ⟨gL, 1, none⟩ (.int .i64 tm)) gL n k (i+1) := by
  obtain ⟨h1, h2, h3, h4, h5, ⟨A', n', c', v, h6, h7⟩, _⟩ := h
  have c0 : ((wr.setCell ⟨gL, 0, none⟩ (.slice (some ⟨g, 0, none⟩) n n)).setCell ⟨gL, 1, none⟩ (.int .i64 tm)).cell? ⟨gL, 0, none⟩ = some (.slice (some ⟨g, 0, none⟩) n n) := by simp [go_sem, h6, h7]
  have c1 : ((wr.setCell ⟨gL, 0, none⟩ (.slice (some ⟨g, 0, none⟩) n n)).setCell ⟨gL, 1, none⟩ (.int .i64 tm)).cell? ⟨gL, 1, none⟩ = some (.int .i64 tm) := by simp [go_sem, h6, h7]
  refine ⟨(h1.setCell h2 _).setCell h2 _, h2, by simp [World.setCell]; exact h3, by simp [go_sem, h4], by simp [go_sem, h5], ⟨_, _, _, _, c0, c1⟩, fun _ => ⟨g, c0, ?_, ?_⟩⟩
  · rw [c1, ht]; rfl
  · rw [Nat.add_sub_cancel, ← hL]
    exact (slr_far (slr_far hg hne _) hne _).more (by simp [World.setCell])
theorem before_n (A1 A2 : Option Addr) (c1 c2 n1 n2 : Nat) (l1 l2 : List Bool) (t1 t2 : Int) (w : World) (h1 : l1.length = n1) (h2 : l2.length = n2) (hl1 : l1.length ≤ maxLen) (hl2 : l2.length ≤ maxLen) (hs1 : SlR w w.heap.size A1 l1) (hs2 : SlR w w.heap.size A2 l2) :
    Calls Try.prog 18 #[.agg #[.slice A1 n1 c1, .int .i64 t1], .agg #[.slice A2 n2 c2, .int .i64 t2]] w fun e w' => e = .returned (.bool (beforeL l1 l2 t1 t2)) ∧ Below w.heap.size w w' := by
  subst h1 h2; exact before_any A1 A2 c1 c2 l1 l2 t1 t2 w hl1 hl2 hs1 hs2
theorem slr_ne {w : World} {B g gL n : Nat} {l : List Bool} {A : Option Addr} {c : Nat} (hs : SlR w B (some ⟨g, 0, none⟩) l) (hl : 0 < l.length) (hc : w.cell? ⟨gL, 0, none⟩ = some (.slice A n c)) : g ≠ gL := by
  rintro rfl
  have := hs.bool_at hl
  rw [Nat.add_zero, hc] at this
  cases this
theorem before_next {n k i : Nat} (hn : 1 ≤ n) (hn' : n ≤ 24) (hk : 1 ≤ k) (hk' : k ≤ n) (hr : i < n * binom (n-1) (k-1)) (h0 : 0 < i) :
    beforeL (unrankN n k (i-1)) (unrankN n k i) ((i-1) / binom (n-1) (k-1) : Nat) (i / binom (n-1) (k-1) : Nat) = true := by
  obtain ⟨a1, a2, a3, a4, _⟩ := unrankN_facts hn hn' hk hk' (show i - 1 < n * binom (n-1) (k-1) by omega)
  obtain ⟨b1, b2, b3, b4, _⟩ := unrankN_facts hn hn' hk hk' hr
  rw [← rankN_before a1 b1 (by rw [a2, b2]) (by rw [a3, b3]), a4, b4]
  simp; omega

set_option maxHeartbeats 2000000 in
theorem all_good (n : Nat) (k : Int) (w : World) (h1 : 1 ≤ n) (h7 : n ≤ 7) :
    Calls Try.prog 4 #[.int .i64 n, .int .i64 k] w fun e w' => e = .returned (.bool true) ∧ Below w.heap.size w w' := by
  go_enter Try.func4, Try.ntmps4
  go_wp2_with fail
  refine (small_any _).mono ?_
  rintro e w1 ⟨rfl, hB1⟩
  go_wp2_with fail
  refine (count_any _ _ _).mono ?_
  rintro e w2 ⟨rfl, hB2⟩
  have hb2 := hB1.trans (hB2.mono hB1.size)
  clear hB1 hB2
  go_wp2_with fail
  obtain ⟨P, hP⟩ : ∃ P : Nat, P = 2 ^ n := ⟨_, rfl⟩
  have hP7 : P ≤ 128 := by rw [hP]; exact Nat.pow_le_pow_right (by decide) h7
  have eP : wrap64 ((2:Int)^n) = (P : Int) := by
    rw [show ((2:Int)^n) = ((2^n : Nat) : Int) by simp, ← hP]
    exact wrap64_in _ (by omega)
  have HP := hid hP
  clear hP
  go_loop [7, 8] (fun a b => ∃ y : Nat, a = .int .i64 (k * (cntTo n k y : Int)) ∧ b = .int .i64 y ∧ y ≤ P) (fun _ b => P - (intOf b).toNat)
  case atStart => exact ⟨0, by simp [cntTo], rfl, by omega⟩
  case round =>
    obtain ⟨y, rfl, rfl, hy⟩ := hrel
    by_cases hyP : y < P
    · go_wp2_with fail
      go_loop [9, 10] (fun a b => ∃ i : Nat, a = .int .i64 (pc i y) ∧ b = .int .i64 i ∧ i ≤ n) (fun _ b => n - (intOf b).toNat)
      case atStart => exact ⟨0, rfl, rfl, by omega⟩
      case round =>
        obtain ⟨i, rfl, rfl, hi⟩ := hrel
        have hpc := pc_le i y
        by_cases hin : i < n
        · have e1 := band1 y i (by omega)
          have e2 : wrap64 ((pc i y : Int) + ((y / 2^i % 2 : Nat) : Int)) = (pc (i+1) y : Nat) := by rw [wrap64_in _ (by omega)]; simp [pc]
          have E1 := hid e1
          have E2 := hid e2
          clear e1 e2
          go_wp2_with fail
          go_round
          case rel => exact ⟨i+1, by rw [E1.out, E2.out], by go_num, by omega⟩
          case measure => simp [intOf]; omega
        · have hin' : Hid (i = n) := by unfold Hid; omega
          have hcl := cntTo_le n k y
          by_cases hk : (pc i y : Int) = k
          · have e1 : (((pc i y : Nat) : Int) == k) = true := by simp [hk]
            have hb : k * (cntTo n k y : Int) ≤ 7 * 128 ∧ 0 ≤ k * (cntTo n k y : Int) := by
              constructor
              · exact Int.mul_le_mul (by omega) (by omega) (by omega) (by omega)
              · exact Int.mul_nonneg (by omega) (by omega)
            obtain ⟨hb1, hb2'⟩ := hb
            have hk7 : k ≤ 7 := by omega
            have hk0 : 0 ≤ k := by omega
            have e2 : Hid (k * (cntTo n k y : Int) + k = k * (cntTo n k (y+1) : Int)) := by
              have := hin'.out
              unfold Hid
              simp only [cntTo]
              rw [← this, if_pos hk]; simp [Int.mul_add]
            clear hk
            go_wp2_with fail
            go_round
            case rel => exact ⟨y+1, by rw [e2.out], by go_num, by omega⟩
            case measure => simp [intOf]; omega
          · have e1 : (((pc i y : Nat) : Int) == k) = false := by simp [hk]
            have e2 : Hid (cntTo n k y = cntTo n k (y+1)) := by
              have := hin'.out
              unfold Hid
              simp only [cntTo]
              rw [← this, if_neg hk]; rfl
            clear hk
            go_wp2_with fail
            go_round
            case rel => exact ⟨y+1, by rw [e2.out], by go_num, by omega⟩
            case measure => simp [intOf]; omega
    · have hPy : y = P := by omega
      have ec : ((countL n k) != (k * (cntTo n k y : Int))) = false := by rw [hPy, HP.out, cnt_all n k h1 h7]; simp
      have hz := zeroLayout
      clear hPy
      have hb3 : Below w.heap.size w (w2.alloc (Obj.cells #[Value.slice none 0 0, Value.int IntKind.i64 0] 24)) := hb2.alloc hb2.size _
      go_wp2_with fail
      clear hz ec
      by_cases hk : 1 ≤ k ∧ k ≤ n
      · obtain ⟨hk1, hk2⟩ := hk
        obtain ⟨m, rfl⟩ := Int.eq_ofNat_of_zero_le (show 0 ≤ k by omega)
        obtain ⟨N, hN⟩ : ∃ N : Nat, N = n * binom (n-1) (m-1) := ⟨_, rfl⟩
        have hcN : countL n m = (N : Int) := by rw [hN]; simp only [countL]; rw [if_pos (by omega)]; simp
        have hN7 : N ≤ 7 * 64 := by
          have := binom_le_pow (n-1) (m-1)
          have h2 : 2^(n-1) ≤ 2^6 := Nat.pow_le_pow_right (by decide) (by omega)
          rw [hN]; exact Nat.mul_le_mul h7 (by omega)
        have HN := hid hN
        rw [hcN]
        clear hcN hN
        have L0 : LastW w (w2.alloc (Obj.cells #[Value.slice none 0 0, Value.int IntKind.i64 0] 24)) w2.heap.size n m 0 := by
          have hb := Blk.new w2 24 #[Value.slice none 0 0, Value.int IntKind.i64 0]
          exact ⟨hb3, hb2.size, by simp, hb.frozen 0, hb.frozen 1, ⟨_, _, _, _, hb.cell 0, hb.cell 1⟩, fun h => absurd h (by omega)⟩
        go_loopw [12] (fun a wr => ∃ i : Nat, a = .int .i64 i ∧ i ≤ N ∧ LastW w wr w2.heap.size n m i) (fun a _ => N - (intOf a).toNat)
        case atStart => exact ⟨0, rfl, by omega, L0⟩
        case round =>
          clear L0
          obtain ⟨i, rfl, hi, hL⟩ := hrel
          by_cases hiN : i < N
          · have hx : Hid (i < n * binom (n-1) (m-1)) := by have := HN.out; unfold Hid; omega
            go_wp2_with fail
            refine (unrank_yes n m i _ h1 (by omega) (by omega) (by omega) hx.out).mono ?_
            rintro e w3 ⟨g, rfl, hg, hB⟩
            replace hL := hL.step hB
            clear hB
            obtain ⟨f1, f2, f3, _, _⟩ := unrankN_facts h1 (by omega) (by omega) (by omega) hx.out
            have fb := fun h0 => before_next h1 (by omega) (by omega) (by omega) hx.out h0
            have f1' := hid (rightL_of f1)
            obtain ⟨fp2, _⟩ := (fun h0 => unrankN_facts (r := i - 1) h1 (by omega) (show 1 ≤ m by omega) (show m ≤ n by omega) (by have := hx.out; omega)) (0 : Nat)
            have fl := (unrankN_facts (r := i - 1) h1 (by omega) (show 1 ≤ m by omega) (show m ≤ n by omega) (by have := hx.out; omega)).2.1
            clear fp2
            obtain ⟨L, hLL⟩ : ∃ L, L = unrankN n m i := ⟨_, rfl⟩
            obtain ⟨tm, htm⟩ : ∃ tm, tm = i / binom (n-1) (m-1) := ⟨_, rfl⟩
            rw [← hLL] at f1 f1' f2 f3 fb hg
            rw [← htm] at f1 f1' fb
            rw [← htm]
            have HLL := hid hLL
            have Htm := hid htm
            have F2 := hid f2
            have F3 := hid f3
            have FL := hid fl
            have FB := hid fb
            have hml : L.length ≤ maxLen := by rw [f2]; unfold maxLen; omega
            clear f2 f3 fl fb hLL htm
            go_wp2_with fail
            obtain ⟨gB, hgB⟩ : ∃ gB, gB = w3.heap.size := ⟨_, rfl⟩
            have HG : Blk (w3.alloc (Obj.cells #[Value.slice (some ⟨g, 0, none⟩) n n, Value.int IntKind.i64 tm] 24)) gB 24 #[Value.slice (some ⟨g, 0, none⟩) n n, Value.int IntKind.i64 tm] := Blk.new_at hgB
            have hLg : w2.heap.size < gB := by have := hL.2.2.1; omega
            replace hL := hL.step ((Below.refl _ _).alloc (Nat.le_refl _) (Obj.cells #[Value.slice (some ⟨g, 0, none⟩) n n, Value.int IntKind.i64 tm] 24))
            replace hg : SlR (w3.alloc (Obj.cells #[Value.slice (some ⟨g, 0, none⟩) n n, Value.int IntKind.i64 tm] 24)) (w3.heap.size + 1) (some ⟨g, 0, none⟩) L := (hg.alloc (Nat.le_refl _) _).more (by simp)
            rw [← hgB] at hg
            rw [← hgB]
            generalize (w3.alloc (Obj.cells #[Value.slice (some ⟨g, 0, none⟩) n n, Value.int IntKind.i64 tm] 24)) = v0 at *
            clear hgB
            have c1' := HG.cell 0
            have c2' := HG.cell 1
            simp only [List.getElem?_toArray, List.getElem?_cons_zero, List.getElem?_cons_succ] at c1' c2'
            refine (right_n _ _ _ _ _ _ F2.out hml (hg.more HG.lt)).mono ?_
            rintro e v1 ⟨rfl, hB⟩
            replace hg := hg.below (hB.mono HG.lt)
            replace HG := HG.below hB HG.lt
            replace hL := hL.step hB
            clear hB c1' c2'
            have c1' := HG.cell 0
            have c2' := HG.cell 1
            simp only [List.getElem?_toArray, List.getElem?_cons_zero, List.getElem?_cons_succ] at c1' c2'
            rw [f1'.out]
            go_wp2_with fail
            refine (shelves_n _ _ _ _ _ _ F2.out hml (hg.more HG.lt)).mono ?_
            rintro e v2 ⟨rfl, hB⟩
            replace hg := hg.below (hB.mono HG.lt)
            replace HG := HG.below hB HG.lt
            replace hL := hL.step hB
            clear hB c1' c2'
            have c1' := HG.cell 0
            have c2' := HG.cell 1
            simp only [List.getElem?_toArray, List.getElem?_cons_zero, List.getElem?_cons_succ] at c1' c2'
            rw [F3.out]
            by_cases hi0 : 0 < i
            · obtain ⟨q1, q2, q3, q4, q5, q6, q7⟩ := id hL
              obtain ⟨g', k1, k2, k3⟩ := q7 hi0
              have hne := slr_ne (k3) (by rw [FL.out]; exact h1) k1
              go_wp2_with fail
              refine (before_n _ _ _ _ _ _ _ _ _ _ _ FL.out F2.out (by rw [FL.out]; unfold maxLen; omega) hml k3 (hg.more HG.lt)).mono ?_
              rintro e v3 ⟨rfl, hB⟩
              clear q1 q2 q3 q4 q5 q6 q7 k1 k2 k3 hne
              replace hg := hg.below (hB.mono HG.lt)
              replace HG := HG.below hB HG.lt
              replace hL := hL.step hB
              clear hB c1' c2'
              have c1' := HG.cell 0
              have c2' := HG.cell 1
              simp only [List.getElem?_toArray, List.getElem?_cons_zero, List.getElem?_cons_succ] at c1' c2'
              rw [← Int.natCast_ediv, FB.out hi0]
              obtain ⟨q1, q2, q3, q4, q5, ⟨A', n', c', v, q6, q7⟩, _⟩ := id hL
              have hne2 : g ≠ w2.heap.size := slr_ne (hg.more HG.lt) (by rw [F2.out]; exact h1) q6
              have hnx := hL.next (hg.more HG.lt) HLL.out Htm.out hne2
              have Hgb : Hid (gB ≠ w2.heap.size) := by unfold Hid; omega
              go_wp2_with fail
              go_roundw
              case rel => exact ⟨i+1, by go_num, by omega, hnx⟩
              case measure => simp [intOf]; omega
            · obtain ⟨q1, q2, q3, q4, q5, ⟨A', n', c', v, q6, q7⟩, _⟩ := id hL
              have hne2 : g ≠ w2.heap.size := slr_ne (hg.more HG.lt) (by rw [F2.out]; exact h1) q6
              have hnx := hL.next (hg.more HG.lt) HLL.out Htm.out hne2
              have Hgb : Hid (gB ≠ w2.heap.size) := by unfold Hid; omega
              go_wp2_with fail
              go_roundw
              case rel => exact ⟨i+1, by go_num, by omega, hnx⟩
              case measure => simp [intOf]; omega
          · go_wp2
            go_ret
            exact ⟨rfl, hL.1⟩
      · have hc0 : countL n k = 0 := by simp only [countL]; rw [if_neg (by omega)]
        rw [hc0]
        clear hc0
        go_loop [12] (fun a => a = .int .i64 0) (fun _ => 0)
        case atStart => rfl
        case round =>
          subst hrel
          go_wp2
          go_ret
          exact ⟨rfl, hb3⟩

theorem all_any (n k : Int) (w : World) : Calls Try.prog 4 #[.int .i64 n, .int .i64 k] w fun e w' => e = .returned (.bool true) ∧ Below w.heap.size w w' := by
  by_cases h1 : n < 1
  · go_enter Try.func4, Try.ntmps4
    go_wp2_with fail
    refine (small_any _).mono ?_
    rintro e w1 ⟨rfl, hB1⟩
    go_wp2
    go_ret
    exact ⟨rfl, hB1⟩
  · by_cases h7 : 7 < n
    · go_enter Try.func4, Try.ntmps4
      go_wp2_with fail
      refine (small_any _).mono ?_
      rintro e w1 ⟨rfl, hB1⟩
      go_wp2
      go_ret
      exact ⟨rfl, hB1⟩
    · obtain ⟨m, rfl⟩ := Int.eq_ofNat_of_zero_le (show 0 ≤ n by omega)
      exact all_good m k w (by omega) (by omega)
end Go.Proofs.Ytfcihplkaboikaa
