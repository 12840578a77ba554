
/- Wire: lists, written by a Builder. -/
import Derived.Test.YteljfpcmpdpehaaGreatDoorWireB
set_option linter.unusedSimpArgs false
set_option linter.unusedVariables false
namespace Go.Proofs.YteljfpcmpdpehaaGreatDoor
open Go.RowKit Go.IntWalk

theorem isB_below {T e : TypeId} {B b : Nat} {cs : List Value} {w w' : World} (h : Lib.IsBuilder T e B b cs w) (hb : Below w.heap.size w w') : Lib.IsBuilder T e B b cs w' := by
  have step : ∀ p, Lib.BuilderAt T e B b p cs w → Lib.BuilderAt T e B b p cs w' := by
    rintro p ⟨h1, v, h2, h3, h4⟩
    refine ⟨h1, v, (hb.block b (Array.getElem?_eq_some_iff.1 h2).1).trans h2, ?_, h4⟩
    refine ⟨h3.1, ?_⟩
    rcases h3.2 with h0 | ⟨g, cap, cur, hv, hg, hbk, r⟩
    · exact .inl h0
    · exact .inr ⟨g, cap, cur, hv, hg, (hb.block g (Array.getElem?_eq_some_iff.1 hbk).1).trans hbk, r⟩
  rcases h with h | h
  · exact .inl (step _ h)
  · exact .inr (step _ h)

set_option maxRecDepth 100000 in
set_option maxHeartbeats 1000000 in
theorem listI_any (A : Option Addr) (c : Nat) (l : List Int) (w : World) (hl : (l.map encI).flatten.length ≤ 1000000000000) (hn : l.length ≤ 1000000000000) (hs : SlR w w.heap.size A l) (he : Env w) :
    Calls Tryz.prog 86 #[.slice A l.length c, .func (.func 51) #[] #[]] w fun e w' => e = .returned (.string (bs (encL (l.map encI)))) ∧ Below w.heap.size w w' := by
  have Hl := hid hl
  clear hl
  have HI := hid hs.ints
  have hIn : I64 (l.length : Int) := ⟨by omega, by omega⟩
  go_enter Tryz.func86, Tryz.ntmps86
  go_wp2_with fail
  refine (itoa_any l.length hIn _ (he.below (by (repeat (first | exact Below.refl _ _ | assumption | refine below_drewN ?_ _ | refine Below.drew ?_ | refine Below.alloc ?_ (by (try simp); (try omega)) _ | refine Below.setCell ?_ (by (try simp); (try omega)) _))))).mono ?_
  rintro e w1 ⟨rfl, hB⟩
  have hz : (bs (Lib.itoa l.length)).size ≤ 21 := by rw [bs_size]; exact Lib.itoa_length_le _ hIn.1 hIn.2
  have hb0 : Lib.IsBuilder 109 5 w.heap.size w.heap.size (Lib.byteCells []) w1 := isB_below (Lib.fresh_isBuilder 109 5 w) hB
  have hB1 : Below w.heap.size w w1 := ((Below.refl _ w).alloc (Nat.le_refl _) _).trans (hB.mono (by simp))
  clear hB
  have Hz := hid hz
  go_wp2_with fail
  rw [bs_one]
  refine (Tryz.Builder_WriteString w.heap.size w.heap.size _ (bs (hd l.length)) w1 hb0 (by rw [bs_size]; have := hd_len l.length (by omega); simp [Lib.byteCells]; omega) hB1.size).mono ?_
  rintro e w2 ⟨rfl, hb2, hB2⟩
  have hB3 := hB1.trans hB2
  have hb3 : Lib.IsBuilder 109 5 w.heap.size w.heap.size (Lib.byteCells (hd l.length)) w2 := .inr hb2
  clear hb0 hb2 hB2 hB1 hz Hz
  go_wp2_with fail
  go_loopw [15] (fun i wr => ∃ k : Nat, k ≤ l.length ∧ i = .int .i64 k ∧ Hid (Lib.IsBuilder 109 5 w.heap.size w.heap.size (Lib.byteCells (hd l.length ++ ((l.map encI).take k).flatten)) wr) ∧ Below w.heap.size w wr) (fun i _ => l.length - (intOf i).toNat)
  case atStart => exact ⟨0, by omega, rfl, by simpa [Hid] using hb3, hB3⟩
  case round =>
    clear hb3 hB3
    obtain ⟨k, hk, rfl, hbk, hB⟩ := hrel
    have hz1 := hid (show (hd l.length ++ ((l.map encI).take k).flatten).length ≤ 2000000000000 by
      rw [List.length_append]
      have := hd_len l.length (by omega)
      have := flat_le (l.map encI) k
      have := Hl.out
      omega)
    by_cases hlt : k < l.length
    · obtain ⟨b, off, rfl, _, g1, hi⟩ := (hs.below hB).int hlt
      have hsn := hid (flat_snoc (l.map encI) k (by simpa using hlt))
      simp only [List.getElem_map] at hsn
      generalize l[k] = x at *
      go_wp2_with fail
      refine (wInt_any x hi _ (he.below hB)).mono ?_
      rintro e w3 ⟨rfl, hB3⟩
      have hb4 := isB_below hbk.out hB3
      have hB4 := hB.trans (hB3.mono hB.size)
      have hz2 : (bs (encI x)).size ≤ 22 := by
        rw [bs_size, encI, List.length_append]
        have := Lib.itoa_length_le x hi.1 hi.2
        simp; omega
      have Hz2 := hid hz2
      clear hz2 hB3 hbk hB
      go_wp2_with fail
      refine (Tryz.Builder_WriteString w.heap.size w.heap.size _ (bs (encI x)) w3 hb4 (by rw [Lib.byteCells_length]; have := hz1.out; have := Hz2.out; omega) hB4.size).mono ?_
      rintro e w4 ⟨rfl, hb5, hB5⟩
      have hb6 : Lib.IsBuilder 109 5 w.heap.size w.heap.size (Lib.byteCells (hd l.length ++ ((l.map encI).take (k + 1)).flatten)) w4 := by
        have : Lib.byteCells (hd l.length ++ ((l.map encI).take (k + 1)).flatten) = Lib.byteCells (hd l.length ++ ((l.map encI).take k).flatten) ++ Lib.strCells (bs (encI x)) := by
          rw [hsn.out, ← List.append_assoc]
          simp [Lib.byteCells, Lib.strCells, bs]
        rw [this]
        exact .inr hb5
      have Hb6 := hid hb6
      clear hb6 hb5 hb4
      go_wp2_with fail
      go_roundw
      case rel => exact ⟨k + 1, by omega, by go_num, Hb6, hB4.trans hB5⟩
      case measure => simp [intOf]; omega
    · have hkk : k = l.length := by omega
      subst hkk
      go_wp2_with fail
      refine (Tryz.Builder_String_any w.heap.size w.heap.size _ wr hbk.out hB.size).mono ?_
      rintro e w3 ⟨rfl, hB3⟩
      obtain ⟨S, hS⟩ : ∃ S, S = bs (hd l.length ++ ((l.map encI).take l.length).flatten) := ⟨_, rfl⟩
      rw [show (⟨(hd l.length ++ ((l.map encI).take l.length).flatten).toArray⟩ : ByteArray) = S from hS.symm]
      have hz3 : S.size ≤ 2000000000000 := by rw [hS, bs_size]; exact hz1.out
      have HS := hid hS
      clear hS
      go_wp2_with fail
      go_ret
      exact ⟨ret_str (by rw [HS.out, bs_one, encL, List.take_of_length_le (by simp)]; simp [hd]), hB.trans hB3⟩
set_option maxRecDepth 100000 in
set_option maxHeartbeats 400000 in
theorem wNums_any (A : Option Addr) (c : Nat) (l : List Int) (w : World) (hl : (l.map encI).flatten.length ≤ 1000000000000) (hn : l.length ≤ 1000000000000) (hs : SlR w w.heap.size A l) (he : Env w) :
    Calls Tryz.prog 53 #[.slice A l.length c] w fun e w' => e = .returned (.string (bs (encL (l.map encI)))) ∧ Below w.heap.size w w' := by
  have H := hid (listI_any A c l w hl hn hs he)
  go_enter Tryz.func53, Tryz.ntmps53
  go_wp2_with fail
  refine H.out.mono ?_
  rintro e w1 ⟨rfl, hB⟩
  go_wp2_with fail
  go_ret
  exact ⟨rfl, hB⟩
end Go.Proofs.YteljfpcmpdpehaaGreatDoor
