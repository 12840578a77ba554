
/- Game: given, most, easier. -/
import Derived.Test.YtiaplhdgchbkkaaGamF
set_option linter.unusedSimpArgs false
set_option linter.unusedVariables false
namespace Go.Proofs.Ytiaplhdgchbkkaa
open Go.RowKit Go.IntWalk

set_option maxRecDepth 100000 in
set_option maxHeartbeats 1000000 in
theorem given_any (Ag Am : Option Addr) (cg cm : Nat) (g : Gm) (n : Int) (hn : 0 ≤ n ∧ n ≤ 1000) (w : World) (h : GmR w w.heap.size Ag Am g) :
    Calls Try.prog 21 #[.agg #[.slice Ag g.1.length cg, .slice Am g.2.length cm], .int .i64 n] w fun e w' => e = .returned (.bool (fewL g n && rightL g)) ∧ Below w.heap.size w w' := by
  have hB1 := hid (show Below w.heap.size w (w.alloc (Obj.cells #[.slice Ag g.1.length cg, .slice Am g.2.length cm] 25)) by (repeat (first | exact Below.refl _ _ | assumption | refine below_drewN ?_ _ | refine Below.drew ?_ | refine Below.alloc ?_ (by (try simp); (try omega)) _ | refine Below.setCell ?_ (by (try simp); (try omega)) _)))
  have h1 := h.to hB1.out
  have X1 := hid (Blk.new w 25 #[.slice Ag g.1.length cg, .slice Am g.2.length cm])
  have HF := hid (few_any Ag Am cg cm g n hn _ h1)
  have H1 := hid h1
  clear h h1
  go_enter Try.func21, Try.ntmps21
  go_wp2_with fail
  refine HF.out.mono ?_
  rintro e w2 ⟨rfl, hB2⟩
  have HB2 := hid (hB1.out.trans (hB2.mono hB1.out.size))
  have H2 := hid (H1.out.to hB2)
  have X2 := X1.out.below hB2 X1.out.lt
  have x0 := X2.cell 0; have x1 := X2.cell 1; have xz := X2.lt
  simp at x0 x1
  clear hB2 X2 HF
  cases hf : fewL g n with
  | false =>
    as_aux_lemma =>
      go_wp2_with fail
      go_ret
      exact ⟨ret_bool (by simp [hf]), HB2.out⟩
  | true =>
    have HR := hid (right_any Ag Am cg cm g w2 H2.out)
    as_aux_lemma =>
      go_wp2_with fail
      refine HR.out.mono ?_
      rintro e w3 ⟨rfl, hB3⟩
      have HB3 := hid (HB2.out.trans (hB3.mono HB2.out.size))
      clear hB3
      go_wp2_with fail
      go_ret
      exact ⟨ret_bool (by simp [hf]), HB3.out⟩
/-- The greatest rank of the positions of a move; -1, if one of them has none, or is no position. -/
def mostG (R : List Int) : Int → List Int → Int
  | acc, [] => acc
  | acc, t :: r => if t < 0 ∨ (R.length : Int) ≤ t then -1 else if R.getD t.toNat 0 < 0 then -1 else mostG R (max acc (R.getD t.toNat 0)) r
set_option maxRecDepth 100000 in
set_option maxHeartbeats 2000000 in
theorem most_any (A B : Option Addr) (c d : Nat) (R : List Int) (act : Int) (tos : List Int) (w : World) (hl : R.length ≤ maxLen) (ht : tos.length ≤ maxLen) (h1 : SlR w w.heap.size A R) (h2 : SlR w w.heap.size B tos) :
    Calls Try.prog 22 #[.slice A R.length c, .agg #[.int .i64 act, .slice B tos.length d]] w fun e w' => e = .returned (.int .i64 (mostG R 0 tos)) ∧ Below w.heap.size w w' := by
  unfold maxLen at hl ht
  have hB1 := hid (show Below w.heap.size w (w.alloc (Obj.cells #[.int .i64 act, .slice B tos.length d] 41)) by (repeat (first | exact Below.refl _ _ | assumption | refine below_drewN ?_ _ | refine Below.drew ?_ | refine Below.alloc ?_ (by (try simp); (try omega)) _ | refine Below.setCell ?_ (by (try simp); (try omega)) _)))
  have X1 := hid (Blk.new w 41 #[.int .i64 act, .slice B tos.length d])
  go_enter Try.func22, Try.ntmps22
  go_upto_region 1 with fail
  generalize hw1 : w.alloc (Obj.cells #[.int .i64 act, .slice B tos.length d] 41) = w1 at hB1 X1 ⊢
  clear hw1
  have x1 := X1.out.cell 1; have xz := X1.out.lt
  simp at x1
  go_wp2_with fail
  go_loopw [5, 6] (fun ac i wr => ∃ (k : Nat) (acc : Int), k ≤ tos.length ∧ i = .int .i64 k ∧ ac = .int .i64 acc ∧ w1 = wr ∧ mostG R 0 tos = mostG R acc (tos.drop k)) (fun _ i _ => tos.length - (intOf i).toNat)
  case atStart => exact ⟨0, 0, by omega, rfl, rfl, rfl, by simp⟩
  case round =>
    obtain ⟨k, acc, hk, rfl, rfl, rfl, ha⟩ := hrel
    have HA := hid ha
    clear ha
    by_cases hlt : k < tos.length
    · have hlt' : (k : Int) < tos.length := by omega
      obtain ⟨b, off, rfl, hb, hc, _⟩ := h2.int hlt
      replace hc := (bcell hB1.out b _ hb).trans hc
      have hz : b < w1.heap.size := by have := hB1.out.size; omega
      have hst := hid (show mostG R acc (tos.drop k) = if tos[k] < 0 ∨ (R.length : Int) ≤ tos[k] then -1 else if R.getD tos[k].toNat 0 < 0 then -1 else mostG R (max acc (R.getD tos[k].toNat 0)) (tos.drop (k + 1)) by rw [drop_cons tos k hlt]; rfl)
      generalize tos[k] = t at *
      by_cases ht0 : t < 0
      · as_aux_lemma =>
          go_wp2_with fail
          go_ret
          exact ⟨ret_int (by rw [HA.out, hst.out, if_pos (.inl (by omega))]), hB1.out⟩
      by_cases htn : (R.length : Int) ≤ t
      · as_aux_lemma =>
          go_wp2_with fail
          go_ret
          exact ⟨ret_int (by rw [HA.out, hst.out, if_pos (.inr (by omega))]), hB1.out⟩
      obtain ⟨tn, rfl⟩ : ∃ tn : Nat, t = tn := ⟨t.toNat, by omega⟩
      have htl : tn < R.length := by omega
      have htl' : (tn : Int) < R.length := by omega
      obtain ⟨b2, off2, rfl, hb2, hc2, _⟩ := h1.int htl
      replace hc2 := (bcell hB1.out b2 _ hb2).trans hc2
      have hz2 : b2 < w1.heap.size := by have := hB1.out.size; omega
      have hgd : R.getD (tn : Int).toNat 0 = R[tn] := by simp [htl]
      have hst2 := hid (hst.out.trans (by rw [if_neg (by omega), hgd]))
      clear hst hgd
      generalize R[tn] = x at *
      by_cases hx : x < 0
      · as_aux_lemma =>
          go_wp2_with fail
          go_ret
          exact ⟨ret_int (by rw [HA.out, hst2.out, if_pos hx]), hB1.out⟩
      · have hmax : max acc x = if acc < x then x else acc := by omega
        have HMX := hid hmax
        clear hmax
        have hst3 := hid (show mostG R acc (tos.drop k) = mostG R (max acc x) (tos.drop (k + 1)) by rw [hst2.out, if_neg hx])
        clear hst2
        as_aux_lemma =>
          go_wp2_with fail
          all_goals
            go_roundw
            case rel => exact ⟨k + 1, max acc x, by omega, by go_num, by first | rfl | (simp; omega) | skip, by first | trivial | rfl, by rw [HA.out, hst3.out]⟩
            case measure => simp [intOf]; omega
    · obtain rfl : k = tos.length := by omega
      have hfin := hid (show mostG R 0 tos = acc by rw [HA.out]; simp [mostG])
      as_aux_lemma =>
        go_wp2_with fail
        go_ret
        exact ⟨ret_int hfin.out.symm, hB1.out⟩
end Go.Proofs.Ytiaplhdgchbkkaa
