
/- Stock: Read. -/
import Derived.Test.YtfpehakllnkaeaaGreatDoorStkYa
import Derived.Deep.CutBlock
set_option linter.unusedSimpArgs false
set_option linter.unusedVariables false
namespace Go.Proofs.YtfpehakllnkaeaaGreatDoor
open Go.RowKit Go.IntWalk

def kdRK : RK Kd where
  e := 63
  t := 22
  size := 2
  bytes := 24
  z := .agg #[.string ⟨#[]⟩, .int .i64 0]
  cs x := [.string x.1, .int .i64 x.2]
  ok x := x.1.size ≤ maxLen ∧ I64 x.2
  und := Tryz.underlying22
  info := by kernel_rfl
  zcs := rfl
  pos := by omega
  small := by omega
  len _ := rfl
  one x v hv := by simp at hv; rcases hv with rfl | rfl <;> rfl
  rsz := rfl
  rep w B x h := ⟨[.string x.1], [.int .i64 x.2], rfl, rfl, rfl, ⟨rfl, h.1⟩, rfl, h.2⟩
  inv w B c x h := by obtain ⟨c1, c2, rfl, _, _, ⟨rfl, i0⟩, rfl, i1⟩ := h; exact ⟨rfl, i0, i1⟩
def ltRK : RK Lt where
  e := 40
  t := 23
  size := 3
  bytes := 24
  z := .agg #[.int .i64 0, .int .i64 0, .bool false]
  cs x := [.int .i64 x.1, .int .i64 x.2.1, .bool x.2.2]
  ok x := I64 x.1 ∧ I64 x.2.1
  und := Tryz.underlying23
  info := by kernel_rfl
  zcs := rfl
  pos := by omega
  small := by omega
  len _ := rfl
  one x v hv := by simp at hv; rcases hv with rfl | rfl | rfl <;> rfl
  rsz := rfl
  rep w B x h := ⟨[.int .i64 x.1], [.int .i64 x.2.1, .bool x.2.2], rfl, rfl, rfl, ⟨rfl, h.1⟩, [.int .i64 x.2.1], [.bool x.2.2], rfl, rfl, rfl, ⟨rfl, h.2⟩, rfl⟩
  inv w B c x h := by obtain ⟨c1, c2, rfl, _, _, ⟨rfl, i0⟩, c3, c4, rfl, _, _, ⟨rfl, i1⟩, rfl⟩ := h; exact ⟨rfl, i0, i1⟩
theorem rT_lt (s : RS) (h : s.1 ≠ []) : (rT s).2.1.length < s.1.length := by
  unfold rT
  split
  · rename_i h2; exact (textL_less h2).1
  · simp only [List.length_nil]; exact List.length_pos_iff.2 h
theorem rI_lt (s : RS) (h : s.1 ≠ []) : (rI s).2.1.length < s.1.length := by
  unfold rI
  split
  · rename_i h2; exact numL_less h2
  · simp only [List.length_nil]; exact List.length_pos_iff.2 h
def rKd (s : RS) : Kd × RS := ((bs (rT s).1, (rI (rT s).2).1), (rI (rT s).2).2)
def rLt (s : RS) : Lt × RS := (((r3 s).1.1, (r3 s).1.2.1, decide ((r3 s).1.2.2 = 1)), (r3 s).2)
theorem rKd_enc (k : Kd) (h : KdI k) (r : List UInt8) (b : Bool) : rKd (encKd k ++ r, b) = (k, r, b) := by
  obtain ⟨s, n⟩ := k
  obtain ⟨h1, h2⟩ := h
  simp only at h1 h2
  unfold rKd encKd
  rw [List.append_assoc, rT_enc _ (by show s.data.toList.length ≤ _; rw [← size_list]; omega)]
  simp only [rI_enc n h2, bs_of]
theorem rLt_enc (l : Lt) (h : I64 l.1 ∧ I64 l.2.1) (r : List UInt8) (b : Bool) : rLt (encLt l ++ r, b) = (l, r, b) := by
  obtain ⟨x, y, z⟩ := l
  unfold rLt encLt
  rw [r3_enc _ ⟨h.1, h.2, fzI_I _⟩]
  cases z <;> simp [lt3, fzI]
/-- What the reader reads. -/
def outStk (s : List UInt8) : (List Kd × List Lt × List Bx) × RS :=
  let a := rWhile rKd (rN (s, false)).1.toNat (rN (s, false)).2
  let b := rWhile rLt (rN a.2).1.toNat (rN a.2).2
  let c := rWhile r3 (rN b.2).1.toNat (rN b.2).2
  ((a.1, b.1, c.1), c.2)
/-- What Read returns. -/
def readStk (s : List UInt8) : Option (List Kd × List Lt × List Bx) :=
  if (outStk s).2 = ([], false) ∧ rightS (outStk s).1.1 (outStk s).1.2.1 (outStk s).1.2.2 = true ∧ encStk (outStk s).1.1 (outStk s).1.2.1 (outStk s).1.2.2 = s then some (outStk s).1 else none
theorem encKd_ne (k : Kd) : encKd k ≠ [] := by simp [encKd, encI]
theorem encLt_ne (l : Lt) : encLt l ≠ [] := enc3_ne _
theorem outStk_enc (ks : List Kd) (lots : List Lt) (bxs : List Bx) (hk : ks.length ≤ 10000) (hl : lots.length ≤ 10000) (hb : bxs.length ≤ 10000) (hK : ∀ k ∈ ks, KdI k) (hL : ∀ l ∈ lots, I64 l.1 ∧ I64 l.2.1) (hB : ∀ x ∈ bxs, P3I x) :
    outStk (encStk ks lots bxs) = ((ks, lots, bxs), [], false) := by
  have e1 : rN (encStk ks lots bxs, false) = ((ks.length : Int), (ks.map encKd).flatten ++ (encI lots.length ++ ((lots.map encLt).flatten ++ (encI bxs.length ++ (bxs.map enc3).flatten))), false) := by
    have := rN_enc ks.length ⟨by omega, by omega⟩ (by omega) ((ks.map encKd).flatten ++ (encI lots.length ++ ((lots.map encLt).flatten ++ (encI bxs.length ++ (bxs.map enc3).flatten)))) false
    rw [← this]
    simp only [encStk, List.append_assoc]
  have e2 := rWhile_enc rKd encKd (encI lots.length ++ ((lots.map encLt).flatten ++ (encI bxs.length ++ (bxs.map enc3).flatten))) ks (fun x _ => encKd_ne x) (fun x hx r b => rKd_enc x (hK x hx) r b)
  have e3 := rN_enc lots.length ⟨by omega, by omega⟩ (by omega) ((lots.map encLt).flatten ++ (encI bxs.length ++ (bxs.map enc3).flatten)) false
  have e4 := rWhile_enc rLt encLt (encI bxs.length ++ (bxs.map enc3).flatten) lots (fun x _ => encLt_ne x) (fun x hx r b => rLt_enc x (hL x hx) r b)
  have e5 := rN_enc bxs.length ⟨by omega, by omega⟩ (by omega) ((bxs.map enc3).flatten) false
  have e6 := rWhile_enc r3 enc3 [] bxs (fun x _ => enc3_ne x) (fun x hx r b => r3_enc x (hB x hx) r b)
  rw [List.append_nil] at e6
  unfold outStk
  rw [e1]
  simp only [Int.toNat_natCast, e2, e3, e4, e5, e6]
theorem readStk_enc (ks : List Kd) (lots : List Lt) (bxs : List Bx) (hk : ks.length ≤ 10000) (hl : lots.length ≤ 10000) (hb : bxs.length ≤ 10000) (hK : ∀ k ∈ ks, KdI k) (hL : ∀ l ∈ lots, I64 l.1 ∧ I64 l.2.1) (hB : ∀ x ∈ bxs, P3I x) (hr : rightS ks lots bxs = true) :
    readStk (encStk ks lots bxs) = some (ks, lots, bxs) := by
  unfold readStk
  rw [outStk_enc ks lots bxs hk hl hb hK hL hB]
  rw [if_pos ⟨rfl, hr, rfl⟩]
theorem right_kd {ks : List Kd} {lots : List Lt} {bxs : List Bx} (h : rightS ks lots bxs = true) (hi : ∀ k ∈ ks, I64 k.2) : ks.length ≤ 500 ∧ lots.length ≤ 2000 ∧ bxs.length ≤ 3000 ∧ ∀ k ∈ ks, KdI k := by
  unfold rightS kindsF at h
  simp only [Bool.and_eq_true, decide_eq_true_eq] at h
  have hn : ∀ (l : List Kd) (seen : List ByteArray), namesF seen l = true → ∀ k ∈ l, kindF k = true := by
    intro l
    induction l with
    | nil => intro _ _ k hk; cases hk
    | cons x l ih =>
      intro seen h k hk
      unfold namesF at h
      simp only [Bool.and_eq_true] at h
      rcases List.mem_cons.1 hk with rfl | hk
      · exact h.1.1
      · exact ih _ h.2 k hk
  refine ⟨by omega, by omega, by omega, fun k hk => ⟨?_, hi k hk⟩⟩
  have := hn ks [] (by simp_all) k hk
  unfold kindF btw at this
  simp only [Bool.and_eq_true, decide_eq_true_eq] at this
  omega
/-- Read's result. -/
def StkRes (w : World) (r : Option (List Kd × List Lt × List Bx)) (e : Ending) (w' : World) : Prop :=
  match r with
  | some x => ∃ A c B d C e0, e = .returned (.tuple #[.slice A x.1.length c, .slice B x.2.1.length d, .slice C x.2.2.length e0, .bool true]) ∧ SlR w' w'.heap.size A x.1 ∧ SlR w' w'.heap.size B x.2.1 ∧ SlR w' w'.heap.size C x.2.2 ∧ (∀ k ∈ x.1, I64 k.2) ∧ Below w.heap.size w w'
  | none => e = .returned (.tuple #[.slice none 0 0, .slice none 0 0, .slice none 0 0, .bool false]) ∧ Below w.heap.size w w'
theorem rWhile_go {α : Type} (f : RS → α × RS) (m : Nat) (s : RS) (h : s.1 ≠ []) : rWhile f (m + 1) s = ((f s).1 :: (rWhile f m (f s).2).1, (rWhile f m (f s).2).2) := by
  conv => lhs; unfold rWhile
  rw [if_neg h]
section
variable {T : Type} [Rep T] {R : RK T} {w w' : World} {b : Nat} {v : Value} {l : List T}
theorem RK.Own.reader (h : R.Own w (b + 1) v l) (hg : w.grownBy w' (some b)) : R.Own w' (b + 1) v l :=
  own_kept h (fun q cs hv hb => hb.grown hg (fun e => by injection e with e; have := (own_blk h q hv).1; omega))
theorem RK.Own.other {T2 : Type} [Rep T2] {R2 : RK T2} {v2 : Value} {l2 : List T2} {b2 : Nat} (h : R.Own w b v l) (h2 : R2.Own w b2 v2 l2) (hne : R2.e ≠ R.e) (hg : w.grownBy w' v2.ownBlock) : R.Own w' b v l :=
  own_kept h (fun q cs hv hb => hb.grown hg (fun e => own_blk_ne h2 hb hne e.symm))
end
theorem toList_data9 (z : ByteArray) : z.toList = z.data.toList := by rw [← bs_of z, bs_list]; simp [bs]
set_option maxRecDepth 100000 in
set_option maxHeartbeats 16000000 in
theorem sread_any (s : ByteArray) (w : World) (hs : s.size ≤ 90000) (he : Env w) :
    Calls Tryz.prog 6 #[.string s] w (StkRes w (readStk s.data.toList)) := by
  have hsl := hid (size_list s)
  have hl0 : s.data.toList.length ≤ 90000 := by rw [← size_list]; exact hs
  obtain ⟨s0, hs0⟩ : ∃ s0 : RS, s0 = (s.data.toList, false) := ⟨_, rfl⟩
  have K0 : RSok s0 := by rw [hs0]; intro h; cases h
  have Z0 : s0.1.length ≤ 90000 := by rw [hs0]; exact hl0
  have R0 : Calls Tryz.prog 36 #[.string s] w fun e w' => e = .returned (.pointer (some ⟨w.heap.size, 0, none⟩)) ∧ Rd w' w.heap.size s0.1 s0.2 ∧ Below w.heap.size w w' := by rw [hs0]; exact open_any s w
  have HR0 := hid R0
  have HS0 := hid hs0
  have K0 := hid K0
  clear R0 hs0
  go_enter Tryz.func6, Tryz.ntmps6
  go_wp2_with fail
  refine HR0.out.mono ?_
  rintro e w1 ⟨rfl, hR, hB⟩
  have hz1 := hR.lt
  generalize hbq : w.heap.size = b at hR hz1
  have Hbq := hid hbq
  have HBb := hid (show w.heap.size ≤ b by rw [hbq]; exact Nat.le_refl _)
  clear hbq
  have B0 := hid hB
  have R0 := hid hR
  clear hB hR HR0
  obtain ⟨n1_, s1, hr1⟩ : ∃ n s, rN s0 = (n, s) := ⟨_, _, rfl⟩
  have c1 := rNum_f s0 (by omega) b
  have hn1 := rN_bd s0
  have hl1 := rN_le s0
  have hk1 := rN_ok K0.out
  rw [hr1] at c1 hn1 hl1 hk1
  have Hr1 := hid hr1
  simp only at c1 hn1 hl1 hk1
  obtain ⟨m1, rfl⟩ := Int.eq_ofNat_of_zero_le hn1.1
  have C1 := hid c1
  have K1 := hid hk1
  have Z1 : s1.1.length ≤ 90000 := by omega
  have N1 := hid (show m1 ≤ 9223372036854775807 by have := hn1.2.2; omega)
  clear c1 hn1 hl1 hk1 hr1 Z0 K0
  go_wp2_with fail
  refine (C1.out w1 R0.out (he.below B0.out)).mono ?_
  rintro e w1n ⟨rfl, hR, hg⟩
  have B1 := hid (bg B0.out hg HBb.out)
  have R1 := hid hR

  clear hR hg C1 B0 R0
  go_upto_block 0 with fail
  go_cut [7, 10] (fun ov _ wx => ∃ (O : List Kd) (st : RS), kdRK.Own wx (b + 1) ov O ∧ (∀ x ∈ O, kdRK.ok x) ∧ Rd wx b st.1 st.2 ∧ RSok st ∧ O.length + st.1.length ≤ 90000 ∧ Hid (rWhile rKd m1 s1 = (O, st)) ∧ Below w.heap.size w wx)
  case first =>
    as_aux_lemma =>
      go_wp2_with fail
      go_loopw [7, 10] (fun ov i wr => ∃ (m : Nat) (O : List Kd) (st : RS), m ≤ m1 ∧ i = .int .i64 m ∧ kdRK.Own wr (b + 1) ov O ∧ (∀ x ∈ O, kdRK.ok x) ∧ Rd wr b st.1 st.2 ∧ RSok st ∧ O.length + st.1.length ≤ 90000 ∧ Hid (rWhile rKd m1 s1 = (O ++ (rWhile rKd m st).1, (rWhile rKd m st).2)) ∧ Below w.heap.size w wr) (fun _ i _ => (intOf i).toNat)
      case atStart => exact ⟨m1, [], s1, Nat.le_refl _, rfl, RK.Own.nil, by simp, R1.out, K1.out, by simpa using Z1, by simp [Hid], B1.out⟩
      case round =>
        clear R1 B1 Z1 
        obtain ⟨m, O, st, hm, rfl, hO, hOK, hRd, hst, hsz, hrm, hB⟩ := hrel
        have HO := hid hO
        have HOK := hid hOK
        have HR := hid hRd
        have HB := hid hB
        have HST := hid hst

        clear hO hOK hRd hB hst 
        rcases Nat.eq_zero_or_pos m with hm0 | hm0
        case inr =>
          obtain ⟨m, rfl⟩ : ∃ k, m = k + 1 := ⟨m - 1, by omega⟩
          have hpos : (0 : Int) < ((m + 1 : Nat) : Int) := by omega
          have hm1 : m + 1 ≤ 9223372036854775807 := by have := N1.out; omega
          clear hm0
          by_cases hnil : st.1 = []
          case neg =>
            as_aux_lemma =>
              have hln : (0 : Int) < (st.1.length : Int) := by have := List.length_pos_iff.2 hnil; omega
              have hsz0 := hid hsz
              have HNIL := hid hnil
              clear hsz hnil
              go_wp2_with fail
              refine (left_any b st.1 st.2 wr HR.out).mono ?_
              rintro e w0 ⟨rfl, hBl⟩
              have B0 := hid (HB.out.trans (hBl.mono HB.out.size))
              have R0 := hid (show Rd w0 b st.1 st.2 from Blk.below HR.out hBl HR.out.lt)
              have Q0 := hid (HO.out.below hBl)

              clear hBl HR HB HO
              obtain ⟨x1, t1, e1⟩ : ∃ x s', rT st = (x, s') := ⟨_, _, rfl⟩
              obtain ⟨x2, t2, e2⟩ : ∃ x s', rI t1 = (x, s') := ⟨_, _, rfl⟩
              have hL0 : st.1.length ≤ 90000 := by have := hsz0.out; omega
              have g1 := rT_lt st HNIL.out
              have k1 := rT_ok HST.out
              have l1 := (rT_le st).2
              have c1 := rText_f st HST.out (by omega) b
              rw [e1] at g1 k1 l1 c1
              simp only at g1 k1 l1 c1
              have l2 := rI_le t1
              have i2 := rI_bd t1
              have k2 := rI_ok k1
              have c2 := rInt_f t1 (by omega) b
              rw [e2] at l2 i2 k2 c2
              simp only at l2 i2 k2 c2
              have hfx := hid (show rKd st = ((bs x1, x2), t2) by unfold rKd; rw [e1]; simp only [e2])
              have HX := hid (show kdRK.ok (bs x1, x2) from ⟨by rw [bs_size]; unfold maxLen; omega, i2⟩)
              have HSZ := hid (show O.length + 1 + t2.1.length ≤ 90000 by have := hsz0.out; omega)
              have KT := hid k2
              have C1 := hid c1; have C2 := hid c2
              clear c1 c2 g1 k1 l1 l2 i2 k2 e1 e2 hL0
              go_wp2_with fail
              refine (C1.out w0 R0.out (he.below B0.out)).mono ?_
              rintro e w1 ⟨rfl, hR, hg⟩
              have B1 := hid (bg B0.out hg HBb.out)
              have R1 := hid hR
              have Q1 := hid (Q0.out.reader hg)

              clear hR hg C1 B0 R0 Q0
              go_wp2_with fail
              refine (C2.out w1 R1.out (he.below B1.out)).mono ?_
              rintro e w2 ⟨rfl, hR, hg⟩
              have B2 := hid (bg B1.out hg HBb.out)
              have R2 := hid hR
              have Q2 := hid (Q1.out.reader hg)

              clear hR hg C2 B1 R1 Q1
              have b6 := hid (show Below w2.heap.size w2 (w2.alloc (Obj.cells #[.string (bs x1), .int .i64 x2] 63)) by (repeat (first | exact Below.refl _ _ | assumption | refine below_drewN ?_ _ | refine Below.drew ?_ | refine Below.alloc ?_ (by (try simp); (try omega)) _ | refine Below.setCell ?_ (by (try simp); (try omega)) _)))
              have O6 := hid (show kdRK.Own (w2.alloc (Obj.cells #[.string (bs x1), .int .i64 x2] 63)) (b + 1) _ O from Q2.out.below b6.out)
              have S6 := hid (show SlR (w2.alloc (Obj.cells #[.string (bs x1), .int .i64 x2] 63)) (w2.alloc (Obj.cells #[.string (bs x1), .int .i64 x2] 63)).heap.size (some ⟨w2.heap.size, 0, none⟩) [(bs x1, x2)] from kdRK.blk (show Blk _ w2.heap.size kdRK.e (kdRK.all [(bs x1, x2)]).toArray from Blk.new w2 _ _) (by intro x hx; rw [List.mem_singleton.1 hx]; exact HX.out))
              have B6 := hid (B2.out.trans (b6.out.mono B2.out.size))
              have R6 := hid (show Rd (w2.alloc (Obj.cells #[.string (bs x1), .int .i64 x2] 63)) b t2.1 t2.2 from Blk.alloc R2.out _)

              have hz6 := hid (show b + 1 ≤ (w2.alloc (Obj.cells #[.string (bs x1), .int .i64 x2] 63)).heap.size by have := R6.out.lt; omega)
              have hlen6 := hid (show O.length + [(bs x1, x2)].length ≤ 100000000 by simp; have := HSZ.out; omega)
              clear R2 B2 Q2
              go_upto_region 7 with (at_builtin; refine kdRK.appL _ rfl (.tmp 26) (.tmp 32) rfl rfl O6.out (ys := [(bs x1, x2)]) (c := 1) rfl S6.out hlen6.out hz6.out ?_; intro A9 c9 w9 ho9 hg9; have O9 := hid ho9; have G9 := hid hg9; clear ho9 hg9)
              have R9 := hid (show Rd w9 b t2.1 t2.2 from Blk.grown R6.out G9.out (fun e => by have := (own_blk O6.out b e.symm).1; omega))
              have B9 := hid (B6.out.grown G9.out B6.out.size (fun q e => by have := (own_blk O6.out q e).1; have := HBb.out; omega))

              clear R6 B6 O6 S6 G9 b6 hz6 hlen6
              go_wp2_with fail
              go_roundw
              case rel =>
                refine ⟨m, O ++ [(bs x1, x2)], t2, by omega, by go_num, O9.out, ?_, R9.out, KT.out, by simp; have := HSZ.out; omega, ?_, B9.out⟩
                · intro x hx
                  rcases List.mem_append.1 hx with h | h
                  · exact HOK.out x h
                  · rw [List.mem_singleton.1 h]; exact HX.out
                · show rWhile rKd m1 s1 = _
                  rw [hrm.out, rWhile_go rKd m st HNIL.out, hfx.out]; try simp
              case measure => simp [intOf]
          case pos =>
            as_aux_lemma =>
              have hln : ¬ (0 : Int) < (st.1.length : Int) := by rw [hnil]; simp
              have hfin := hid (show rWhile rKd m1 s1 = (O, st) by rw [hrm.out, rWhile_nil _ _ _ hnil]; simp)
              have hsz0 := hid hsz
              clear hnil hrm hsz
              go_wp2_with fail
              refine (left_any b st.1 st.2 wr HR.out).mono ?_
              rintro e wl ⟨rfl, hBl⟩
              have BE := hid (HB.out.trans (hBl.mono HB.out.size))
              have RE := hid (show Rd wl b st.1 st.2 from Blk.below HR.out hBl HR.out.lt)
              have OE := hid (HO.out.below hBl)

              clear hBl HR HB HO
              go_wp2_with fail
              go_meet
              exact ⟨O, st, OE.out, HOK.out, RE.out, HST.out, hsz0.out, hfin.out, BE.out⟩
        case inl =>
          as_aux_lemma =>
            subst hm0
            have hpos : ¬ (0 : Int) < ((0 : Nat) : Int) := by omega
            have hfin := hid (show rWhile rKd m1 s1 = (O, st) by rw [hrm.out]; simp [rWhile])
            have hsz0 := hid hsz
            clear hrm hsz
            go_wp2_with fail
            go_meet
            exact ⟨O, st, HO.out, HOK.out, HR.out, HST.out, hsz0.out, hfin.out, HB.out⟩
  case rest =>
    clear R1 B1 Z1 
    obtain ⟨L1, p1, hO, hOK, hRd, hst, hsz, hrm, hB⟩ := hcut
    obtain ⟨A1, ca1, rfl⟩ := hO.form
    have O1 := hid hO
    have OK1 := hid hOK
    have R2 := hid hRd
    have K2 := hid hst
    have W1 := hrm
    have B2 := hid hB
    have M1 := hid (show L1.length ≤ 90000 by omega)
    have Z2 : p1.1.length ≤ 90000 := by omega

    clear hO hOK hRd hst hsz hrm hB 
    generalize wc = wk1 at *
    obtain ⟨n3_, s3, hr3⟩ : ∃ n s, rN p1 = (n, s) := ⟨_, _, rfl⟩
    have c3 := rNum_f p1 (by omega) b
    have hn3 := rN_bd p1
    have hl3 := rN_le p1
    have hk3 := rN_ok K2.out
    rw [hr3] at c3 hn3 hl3 hk3
    have Hr3 := hid hr3
    simp only at c3 hn3 hl3 hk3
    obtain ⟨m2, rfl⟩ := Int.eq_ofNat_of_zero_le hn3.1
    have C3 := hid c3
    have K3 := hid hk3
    have Z3 : s3.1.length ≤ 90000 := by omega
    have N3 := hid (show m2 ≤ 9223372036854775807 by have := hn3.2.2; omega)
    clear c3 hn3 hl3 hk3 hr3 Z2 K2
    go_wp2_with fail
    refine (C3.out wk1 R2.out (he.below B2.out)).mono ?_
    rintro e w3n ⟨rfl, hR, hg⟩
    have B3 := hid (bg B2.out hg HBb.out)
    have R3 := hid hR
    replace O1 := hid (O1.out.reader hg)
    clear hR hg C3 B2 R2
    go_upto_block 2 with fail
    go_cut [8, 11] (fun ov _ wx => ∃ (O : List Lt) (st : RS), ltRK.Own wx (b + 1) ov O ∧ (∀ x ∈ O, ltRK.ok x) ∧ Rd wx b st.1 st.2 ∧ RSok st ∧ O.length + st.1.length ≤ 90000 ∧ Hid (rWhile rLt m2 s3 = (O, st)) ∧ Below w.heap.size w wx ∧ kdRK.Own wx (b + 1) (.slice A1 L1.length ca1) L1)
    case first =>
      as_aux_lemma =>
        go_wp2_with fail
        go_loopw [8, 11] (fun ov i wr => ∃ (m : Nat) (O : List Lt) (st : RS), m ≤ m2 ∧ i = .int .i64 m ∧ ltRK.Own wr (b + 1) ov O ∧ (∀ x ∈ O, ltRK.ok x) ∧ Rd wr b st.1 st.2 ∧ RSok st ∧ O.length + st.1.length ≤ 90000 ∧ Hid (rWhile rLt m2 s3 = (O ++ (rWhile rLt m st).1, (rWhile rLt m st).2)) ∧ Below w.heap.size w wr ∧ kdRK.Own wr (b + 1) (.slice A1 L1.length ca1) L1) (fun _ i _ => (intOf i).toNat)
        case atStart => exact ⟨m2, [], s3, Nat.le_refl _, rfl, RK.Own.nil, by simp, R3.out, K3.out, by simpa using Z3, by simp [Hid], B3.out, O1.out⟩
        case round =>
          clear R3 B3 Z3 O1
          obtain ⟨m, O, st, hm, rfl, hO, hOK, hRd, hst, hsz, hrm, hB, h1⟩ := hrel
          have HO := hid hO
          have HOK := hid hOK
          have HR := hid hRd
          have HB := hid hB
          have HST := hid hst
          have O1 := hid h1
          clear hO hOK hRd hB hst h1
          rcases Nat.eq_zero_or_pos m with hm0 | hm0
          case inr =>
            obtain ⟨m, rfl⟩ : ∃ k, m = k + 1 := ⟨m - 1, by omega⟩
            have hpos : (0 : Int) < ((m + 1 : Nat) : Int) := by omega
            have hm1 : m + 1 ≤ 9223372036854775807 := by have := N3.out; omega
            clear hm0
            by_cases hnil : st.1 = []
            case neg =>
              as_aux_lemma =>
                have hln : (0 : Int) < (st.1.length : Int) := by have := List.length_pos_iff.2 hnil; omega
                have hsz0 := hid hsz
                have HNIL := hid hnil
                clear hsz hnil
                go_wp2_with fail
                refine (left_any b st.1 st.2 wr HR.out).mono ?_
                rintro e w0 ⟨rfl, hBl⟩
                have B0 := hid (HB.out.trans (hBl.mono HB.out.size))
                have R0 := hid (show Rd w0 b st.1 st.2 from Blk.below HR.out hBl HR.out.lt)
                have Q0 := hid (HO.out.below hBl)
                replace O1 := hid (O1.out.below hBl)
                clear hBl HR HB HO
                obtain ⟨x1, t1, e1⟩ : ∃ x s', rI st = (x, s') := ⟨_, _, rfl⟩
                obtain ⟨x2, t2, e2⟩ : ∃ x s', rI t1 = (x, s') := ⟨_, _, rfl⟩
                obtain ⟨x3, t3, e3⟩ : ∃ x s', rI t2 = (x, s') := ⟨_, _, rfl⟩
                have hL0 : st.1.length ≤ 90000 := by have := hsz0.out; omega
                have g1 := rI_lt st HNIL.out
                have k1 := rI_ok HST.out
                have i1 := rI_bd st
                have c1 := rInt_f st (by omega) b
                rw [e1] at g1 k1 i1 c1
                simp only at g1 k1 i1 c1
                have l2 := rI_le t1
                have i2 := rI_bd t1
                have k2 := rI_ok k1
                have c2 := rInt_f t1 (by omega) b
                rw [e2] at l2 i2 k2 c2
                simp only at l2 i2 k2 c2
                have l3 := rI_le t2
                have i3 := rI_bd t2
                have k3 := rI_ok k2
                have c3 := rInt_f t2 (by omega) b
                rw [e3] at l3 i3 k3 c3
                simp only at l3 i3 k3 c3
                have hr3 := hid (show r3 st = ((x1, x2, x3), t3) by unfold r3; rw [e1]; simp only [e2, e3])
                have I1 := hid i1; have I2 := hid i2
                have HSZ := hid (show O.length + 1 + t3.1.length ≤ 90000 by have := hsz0.out; omega)
                have KT := hid k3
                have C1 := hid c1; have C2 := hid c2; have C3 := hid c3
                clear c1 c2 c3 g1 k1 i1 l2 i2 k2 l3 i3 k3 e1 e2 e3 hL0
                go_wp2_with fail
                refine (C1.out w0 R0.out (he.below B0.out)).mono ?_
                rintro e w1 ⟨rfl, hR, hg⟩
                have B1 := hid (bg B0.out hg HBb.out)
                have R1 := hid hR
                have Q1 := hid (Q0.out.reader hg)
                replace O1 := hid (O1.out.reader hg)
                clear hR hg C1 B0 R0 Q0
                go_wp2_with fail
                refine (C2.out w1 R1.out (he.below B1.out)).mono ?_
                rintro e w2 ⟨rfl, hR, hg⟩
                have B2 := hid (bg B1.out hg HBb.out)
                have R2 := hid hR
                have Q2 := hid (Q1.out.reader hg)
                replace O1 := hid (O1.out.reader hg)
                clear hR hg C2 B1 R1 Q1
                go_wp2_with fail
                refine (C3.out w2 R2.out (he.below B2.out)).mono ?_
                rintro e w3 ⟨rfl, hR, hg⟩
                have B3 := hid (bg B2.out hg HBb.out)
                have R3 := hid hR
                have Q3 := hid (Q2.out.reader hg)
                replace O1 := hid (O1.out.reader hg)
                clear hR hg C3 B2 R2 Q2
                by_cases hx3 : x3 = 1
                · subst hx3
                  have hfx := hid (show rLt st = ((x1, x2, true), t3) by unfold rLt; rw [hr3.out]; simp)
                  have HX := hid (show ltRK.ok (x1, x2, true) from ⟨I1.out, I2.out⟩)
                  have b6 := hid (show Below w3.heap.size w3 (w3.alloc (Obj.cells #[.int .i64 x1, .int .i64 x2, .bool true] 40)) by (repeat (first | exact Below.refl _ _ | assumption | refine below_drewN ?_ _ | refine Below.drew ?_ | refine Below.alloc ?_ (by (try simp); (try omega)) _ | refine Below.setCell ?_ (by (try simp); (try omega)) _)))
                  have O6 := hid (show ltRK.Own (w3.alloc (Obj.cells #[.int .i64 x1, .int .i64 x2, .bool true] 40)) (b + 1) _ O from Q3.out.below b6.out)
                  have S6 := hid (show SlR (w3.alloc (Obj.cells #[.int .i64 x1, .int .i64 x2, .bool true] 40)) (w3.alloc (Obj.cells #[.int .i64 x1, .int .i64 x2, .bool true] 40)).heap.size (some ⟨w3.heap.size, 0, none⟩) [(x1, x2, true)] from ltRK.blk (show Blk _ w3.heap.size ltRK.e (ltRK.all [(x1, x2, true)]).toArray from Blk.new w3 _ _) (by intro x hx; rw [List.mem_singleton.1 hx]; exact HX.out))
                  have B6 := hid (B3.out.trans (b6.out.mono B3.out.size))
                  have R6 := hid (show Rd (w3.alloc (Obj.cells #[.int .i64 x1, .int .i64 x2, .bool true] 40)) b t3.1 t3.2 from Blk.alloc R3.out _)
                  replace O1 := hid (O1.out.below b6.out)
                  have hz6 := hid (show b + 1 ≤ (w3.alloc (Obj.cells #[.int .i64 x1, .int .i64 x2, .bool true] 40)).heap.size by have := R6.out.lt; omega)
                  have hlen6 := hid (show O.length + [(x1, x2, true)].length ≤ 100000000 by simp; have := HSZ.out; omega)
                  clear R3 B3 Q3
                  go_upto_region 11 with (at_builtin; refine ltRK.appL _ rfl (.tmp 45) (.tmp 54) rfl rfl O6.out (ys := [(x1, x2, true)]) (c := 1) rfl S6.out hlen6.out hz6.out ?_; intro A9 c9 w9 ho9 hg9; have O9 := hid ho9; have G9 := hid hg9; clear ho9 hg9)
                  have R9 := hid (show Rd w9 b t3.1 t3.2 from Blk.grown R6.out G9.out (fun e => by have := (own_blk O6.out b e.symm).1; omega))
                  have B9 := hid (B6.out.grown G9.out B6.out.size (fun q e => by have := (own_blk O6.out q e).1; have := HBb.out; omega))
                  replace O1 := hid (O1.out.other O6.out (by decide) G9.out)
                  clear R6 B6 O6 S6 G9 b6 hz6 hlen6
                  go_wp2_with fail
                  go_roundw
                  case rel =>
                    refine ⟨m, O ++ [(x1, x2, true)], t3, by omega, by go_num, O9.out, ?_, R9.out, KT.out, by simp; have := HSZ.out; omega, ?_, B9.out, O1.out⟩
                    · intro x hx
                      rcases List.mem_append.1 hx with h | h
                      · exact HOK.out x h
                      · rw [List.mem_singleton.1 h]; exact HX.out
                    · show rWhile rLt m2 s3 = _
                      rw [hrm.out, rWhile_go rLt m st HNIL.out, hfx.out]; try simp
                  case measure => simp [intOf]
                · have hx4 : (x3 == 1) = false := by simp [hx3]
                  have hfx := hid (show rLt st = ((x1, x2, false), t3) by unfold rLt; rw [hr3.out]; simp [hx3])
                  have HX := hid (show ltRK.ok (x1, x2, false) from ⟨I1.out, I2.out⟩)
                  have b6 := hid (show Below w3.heap.size w3 (w3.alloc (Obj.cells #[.int .i64 x1, .int .i64 x2, .bool false] 40)) by (repeat (first | exact Below.refl _ _ | assumption | refine below_drewN ?_ _ | refine Below.drew ?_ | refine Below.alloc ?_ (by (try simp); (try omega)) _ | refine Below.setCell ?_ (by (try simp); (try omega)) _)))
                  have O6 := hid (show ltRK.Own (w3.alloc (Obj.cells #[.int .i64 x1, .int .i64 x2, .bool false] 40)) (b + 1) _ O from Q3.out.below b6.out)
                  have S6 := hid (show SlR (w3.alloc (Obj.cells #[.int .i64 x1, .int .i64 x2, .bool false] 40)) (w3.alloc (Obj.cells #[.int .i64 x1, .int .i64 x2, .bool false] 40)).heap.size (some ⟨w3.heap.size, 0, none⟩) [(x1, x2, false)] from ltRK.blk (show Blk _ w3.heap.size ltRK.e (ltRK.all [(x1, x2, false)]).toArray from Blk.new w3 _ _) (by intro x hx; rw [List.mem_singleton.1 hx]; exact HX.out))
                  have B6 := hid (B3.out.trans (b6.out.mono B3.out.size))
                  have R6 := hid (show Rd (w3.alloc (Obj.cells #[.int .i64 x1, .int .i64 x2, .bool false] 40)) b t3.1 t3.2 from Blk.alloc R3.out _)
                  replace O1 := hid (O1.out.below b6.out)
                  have hz6 := hid (show b + 1 ≤ (w3.alloc (Obj.cells #[.int .i64 x1, .int .i64 x2, .bool false] 40)).heap.size by have := R6.out.lt; omega)
                  have hlen6 := hid (show O.length + [(x1, x2, false)].length ≤ 100000000 by simp; have := HSZ.out; omega)
                  clear R3 B3 Q3
                  go_upto_region 11 with (at_builtin; refine ltRK.appL _ rfl (.tmp 45) (.tmp 54) rfl rfl O6.out (ys := [(x1, x2, false)]) (c := 1) rfl S6.out hlen6.out hz6.out ?_; intro A9 c9 w9 ho9 hg9; have O9 := hid ho9; have G9 := hid hg9; clear ho9 hg9)
                  have R9 := hid (show Rd w9 b t3.1 t3.2 from Blk.grown R6.out G9.out (fun e => by have := (own_blk O6.out b e.symm).1; omega))
                  have B9 := hid (B6.out.grown G9.out B6.out.size (fun q e => by have := (own_blk O6.out q e).1; have := HBb.out; omega))
                  replace O1 := hid (O1.out.other O6.out (by decide) G9.out)
                  clear R6 B6 O6 S6 G9 b6 hz6 hlen6
                  go_wp2_with fail
                  go_roundw
                  case rel =>
                    refine ⟨m, O ++ [(x1, x2, false)], t3, by omega, by go_num, O9.out, ?_, R9.out, KT.out, by simp; have := HSZ.out; omega, ?_, B9.out, O1.out⟩
                    · intro x hx
                      rcases List.mem_append.1 hx with h | h
                      · exact HOK.out x h
                      · rw [List.mem_singleton.1 h]; exact HX.out
                    · show rWhile rLt m2 s3 = _
                      rw [hrm.out, rWhile_go rLt m st HNIL.out, hfx.out]; try simp
                  case measure => simp [intOf]
            case pos =>
              as_aux_lemma =>
                have hln : ¬ (0 : Int) < (st.1.length : Int) := by rw [hnil]; simp
                have hfin := hid (show rWhile rLt m2 s3 = (O, st) by rw [hrm.out, rWhile_nil _ _ _ hnil]; simp)
                have hsz0 := hid hsz
                clear hnil hrm hsz
                go_wp2_with fail
                refine (left_any b st.1 st.2 wr HR.out).mono ?_
                rintro e wl ⟨rfl, hBl⟩
                have BE := hid (HB.out.trans (hBl.mono HB.out.size))
                have RE := hid (show Rd wl b st.1 st.2 from Blk.below HR.out hBl HR.out.lt)
                have OE := hid (HO.out.below hBl)
                replace O1 := hid (O1.out.below hBl)
                clear hBl HR HB HO
                go_wp2_with fail
                go_meet
                exact ⟨O, st, OE.out, HOK.out, RE.out, HST.out, hsz0.out, hfin.out, BE.out, O1.out⟩
          case inl =>
            as_aux_lemma =>
              subst hm0
              have hpos : ¬ (0 : Int) < ((0 : Nat) : Int) := by omega
              have hfin := hid (show rWhile rLt m2 s3 = (O, st) by rw [hrm.out]; simp [rWhile])
              have hsz0 := hid hsz
              clear hrm hsz
              go_wp2_with fail
              go_meet
              exact ⟨O, st, HO.out, HOK.out, HR.out, HST.out, hsz0.out, hfin.out, HB.out, O1.out⟩
    case rest =>
      clear R3 B3 Z3 O1
      obtain ⟨L2, p2, hO, hOK, hRd, hst, hsz, hrm, hB, h1⟩ := hcut
      obtain ⟨A2, ca2, rfl⟩ := hO.form
      have O2 := hid hO
      have OK2 := hid hOK
      have R4 := hid hRd
      have K4 := hid hst
      have W2 := hrm
      have B4 := hid hB
      have M2 := hid (show L2.length ≤ 90000 by omega)
      have Z4 : p2.1.length ≤ 90000 := by omega
      have O1 := hid h1
      clear hO hOK hRd hst hsz hrm hB h1
      generalize wc = wk2 at *
      obtain ⟨n5_, s5, hr5⟩ : ∃ n s, rN p2 = (n, s) := ⟨_, _, rfl⟩
      have c5 := rNum_f p2 (by omega) b
      have hn5 := rN_bd p2
      have hl5 := rN_le p2
      have hk5 := rN_ok K4.out
      rw [hr5] at c5 hn5 hl5 hk5
      have Hr5 := hid hr5
      simp only at c5 hn5 hl5 hk5
      obtain ⟨m3, rfl⟩ := Int.eq_ofNat_of_zero_le hn5.1
      have C5 := hid c5
      have K5 := hid hk5
      have Z5 : s5.1.length ≤ 90000 := by omega
      have N5 := hid (show m3 ≤ 9223372036854775807 by have := hn5.2.2; omega)
      clear c5 hn5 hl5 hk5 hr5 Z4 K4
      go_wp2_with fail
      refine (C5.out wk2 R4.out (he.below B4.out)).mono ?_
      rintro e w5n ⟨rfl, hR, hg⟩
      have B5 := hid (bg B4.out hg HBb.out)
      have R5 := hid hR
      replace O1 := hid (O1.out.reader hg)
      replace O2 := hid (O2.out.reader hg)
      clear hR hg C5 B4 R4
      go_upto_block 4 with fail
      go_cut [9, 12] (fun ov _ wx => ∃ (O : List Bx) (st : RS), bxRK.Own wx (b + 1) ov O ∧ (∀ x ∈ O, bxRK.ok x) ∧ Rd wx b st.1 st.2 ∧ RSok st ∧ O.length + st.1.length ≤ 90000 ∧ Hid (rWhile r3 m3 s5 = (O, st)) ∧ Below w.heap.size w wx ∧ kdRK.Own wx (b + 1) (.slice A1 L1.length ca1) L1 ∧ ltRK.Own wx (b + 1) (.slice A2 L2.length ca2) L2)
      case first =>
        as_aux_lemma =>
          go_wp2_with fail
          go_loopw [9, 12] (fun ov i wr => ∃ (m : Nat) (O : List Bx) (st : RS), m ≤ m3 ∧ i = .int .i64 m ∧ bxRK.Own wr (b + 1) ov O ∧ (∀ x ∈ O, bxRK.ok x) ∧ Rd wr b st.1 st.2 ∧ RSok st ∧ O.length + st.1.length ≤ 90000 ∧ Hid (rWhile r3 m3 s5 = (O ++ (rWhile r3 m st).1, (rWhile r3 m st).2)) ∧ Below w.heap.size w wr ∧ kdRK.Own wr (b + 1) (.slice A1 L1.length ca1) L1 ∧ ltRK.Own wr (b + 1) (.slice A2 L2.length ca2) L2) (fun _ i _ => (intOf i).toNat)
          case atStart => exact ⟨m3, [], s5, Nat.le_refl _, rfl, RK.Own.nil, by simp, R5.out, K5.out, by simpa using Z5, by simp [Hid], B5.out, O1.out, O2.out⟩
          case round =>
            clear R5 B5 Z5 O1 O2
            obtain ⟨m, O, st, hm, rfl, hO, hOK, hRd, hst, hsz, hrm, hB, h1, h2⟩ := hrel
            have HO := hid hO
            have HOK := hid hOK
            have HR := hid hRd
            have HB := hid hB
            have HST := hid hst
            have O1 := hid h1
            have O2 := hid h2
            clear hO hOK hRd hB hst h1 h2
            rcases Nat.eq_zero_or_pos m with hm0 | hm0
            case inr =>
              obtain ⟨m, rfl⟩ : ∃ k, m = k + 1 := ⟨m - 1, by omega⟩
              have hpos : (0 : Int) < ((m + 1 : Nat) : Int) := by omega
              have hm1 : m + 1 ≤ 9223372036854775807 := by have := N5.out; omega
              clear hm0
              by_cases hnil : st.1 = []
              case neg =>
                as_aux_lemma =>
                  have hln : (0 : Int) < (st.1.length : Int) := by have := List.length_pos_iff.2 hnil; omega
                  have hsz0 := hid hsz
                  have HNIL := hid hnil
                  clear hsz hnil
                  go_wp2_with fail
                  refine (left_any b st.1 st.2 wr HR.out).mono ?_
                  rintro e w0 ⟨rfl, hBl⟩
                  have B0 := hid (HB.out.trans (hBl.mono HB.out.size))
                  have R0 := hid (show Rd w0 b st.1 st.2 from Blk.below HR.out hBl HR.out.lt)
                  have Q0 := hid (HO.out.below hBl)
                  replace O1 := hid (O1.out.below hBl)
                  replace O2 := hid (O2.out.below hBl)
                  clear hBl HR HB HO
                  obtain ⟨x1, t1, e1⟩ : ∃ x s', rI st = (x, s') := ⟨_, _, rfl⟩
                  obtain ⟨x2, t2, e2⟩ : ∃ x s', rI t1 = (x, s') := ⟨_, _, rfl⟩
                  obtain ⟨x3, t3, e3⟩ : ∃ x s', rI t2 = (x, s') := ⟨_, _, rfl⟩
                  have hL0 : st.1.length ≤ 90000 := by have := hsz0.out; omega
                  have g1 := rI_lt st HNIL.out
                  have k1 := rI_ok HST.out
                  have i1 := rI_bd st
                  have c1 := rInt_f st (by omega) b
                  rw [e1] at g1 k1 i1 c1
                  simp only at g1 k1 i1 c1
                  have l2 := rI_le t1
                  have i2 := rI_bd t1
                  have k2 := rI_ok k1
                  have c2 := rInt_f t1 (by omega) b
                  rw [e2] at l2 i2 k2 c2
                  simp only at l2 i2 k2 c2
                  have l3 := rI_le t2
                  have i3 := rI_bd t2
                  have k3 := rI_ok k2
                  have c3 := rInt_f t2 (by omega) b
                  rw [e3] at l3 i3 k3 c3
                  simp only at l3 i3 k3 c3
                  have hr3 := hid (show r3 st = ((x1, x2, x3), t3) by unfold r3; rw [e1]; simp only [e2, e3])
                  have hfx := hr3
                  have HX := hid (show bxRK.ok (x1, x2, x3) from ⟨i1, i2, i3⟩)
                  have HSZ := hid (show O.length + 1 + t3.1.length ≤ 90000 by have := hsz0.out; omega)
                  have KT := hid k3
                  have C1 := hid c1; have C2 := hid c2; have C3 := hid c3
                  clear c1 c2 c3 g1 k1 i1 l2 i2 k2 l3 i3 k3 e1 e2 e3 hL0
                  go_wp2_with fail
                  refine (C1.out w0 R0.out (he.below B0.out)).mono ?_
                  rintro e w1 ⟨rfl, hR, hg⟩
                  have B1 := hid (bg B0.out hg HBb.out)
                  have R1 := hid hR
                  have Q1 := hid (Q0.out.reader hg)
                  replace O1 := hid (O1.out.reader hg)
                  replace O2 := hid (O2.out.reader hg)
                  clear hR hg C1 B0 R0 Q0
                  go_wp2_with fail
                  refine (C2.out w1 R1.out (he.below B1.out)).mono ?_
                  rintro e w2 ⟨rfl, hR, hg⟩
                  have B2 := hid (bg B1.out hg HBb.out)
                  have R2 := hid hR
                  have Q2 := hid (Q1.out.reader hg)
                  replace O1 := hid (O1.out.reader hg)
                  replace O2 := hid (O2.out.reader hg)
                  clear hR hg C2 B1 R1 Q1
                  go_wp2_with fail
                  refine (C3.out w2 R2.out (he.below B2.out)).mono ?_
                  rintro e w3 ⟨rfl, hR, hg⟩
                  have B3 := hid (bg B2.out hg HBb.out)
                  have R3 := hid hR
                  have Q3 := hid (Q2.out.reader hg)
                  replace O1 := hid (O1.out.reader hg)
                  replace O2 := hid (O2.out.reader hg)
                  clear hR hg C3 B2 R2 Q2
                  have b6 := hid (show Below w3.heap.size w3 (w3.alloc (Obj.cells #[.int .i64 x1, .int .i64 x2, .int .i64 x3] 45)) by (repeat (first | exact Below.refl _ _ | assumption | refine below_drewN ?_ _ | refine Below.drew ?_ | refine Below.alloc ?_ (by (try simp); (try omega)) _ | refine Below.setCell ?_ (by (try simp); (try omega)) _)))
                  have O6 := hid (show bxRK.Own (w3.alloc (Obj.cells #[.int .i64 x1, .int .i64 x2, .int .i64 x3] 45)) (b + 1) _ O from Q3.out.below b6.out)
                  have S6 := hid (show SlR (w3.alloc (Obj.cells #[.int .i64 x1, .int .i64 x2, .int .i64 x3] 45)) (w3.alloc (Obj.cells #[.int .i64 x1, .int .i64 x2, .int .i64 x3] 45)).heap.size (some ⟨w3.heap.size, 0, none⟩) [(x1, x2, x3)] from bxRK.blk (show Blk _ w3.heap.size bxRK.e (bxRK.all [(x1, x2, x3)]).toArray from Blk.new w3 _ _) (by intro x hx; rw [List.mem_singleton.1 hx]; exact HX.out))
                  have B6 := hid (B3.out.trans (b6.out.mono B3.out.size))
                  have R6 := hid (show Rd (w3.alloc (Obj.cells #[.int .i64 x1, .int .i64 x2, .int .i64 x3] 45)) b t3.1 t3.2 from Blk.alloc R3.out _)
                  replace O1 := hid (O1.out.below b6.out)
                  replace O2 := hid (O2.out.below b6.out)
                  have hz6 := hid (show b + 1 ≤ (w3.alloc (Obj.cells #[.int .i64 x1, .int .i64 x2, .int .i64 x3] 45)).heap.size by have := R6.out.lt; omega)
                  have hlen6 := hid (show O.length + [(x1, x2, x3)].length ≤ 100000000 by simp; have := HSZ.out; omega)
                  clear R3 B3 Q3
                  go_upto_region 15 with (at_builtin; refine bxRK.appL _ rfl (.tmp 67) (.tmp 75) rfl rfl O6.out (ys := [(x1, x2, x3)]) (c := 1) rfl S6.out hlen6.out hz6.out ?_; intro A9 c9 w9 ho9 hg9; have O9 := hid ho9; have G9 := hid hg9; clear ho9 hg9)
                  have R9 := hid (show Rd w9 b t3.1 t3.2 from Blk.grown R6.out G9.out (fun e => by have := (own_blk O6.out b e.symm).1; omega))
                  have B9 := hid (B6.out.grown G9.out B6.out.size (fun q e => by have := (own_blk O6.out q e).1; have := HBb.out; omega))
                  replace O1 := hid (O1.out.other O6.out (by decide) G9.out)
                  replace O2 := hid (O2.out.other O6.out (by decide) G9.out)
                  clear R6 B6 O6 S6 G9 b6 hz6 hlen6
                  go_wp2_with fail
                  go_roundw
                  case rel =>
                    refine ⟨m, O ++ [(x1, x2, x3)], t3, by omega, by go_num, O9.out, ?_, R9.out, KT.out, by simp; have := HSZ.out; omega, ?_, B9.out, O1.out, O2.out⟩
                    · intro x hx
                      rcases List.mem_append.1 hx with h | h
                      · exact HOK.out x h
                      · rw [List.mem_singleton.1 h]; exact HX.out
                    · show rWhile r3 m3 s5 = _
                      rw [hrm.out, rWhile_go r3 m st HNIL.out, hfx.out]; try simp
                  case measure => simp [intOf]
              case pos =>
                as_aux_lemma =>
                  have hln : ¬ (0 : Int) < (st.1.length : Int) := by rw [hnil]; simp
                  have hfin := hid (show rWhile r3 m3 s5 = (O, st) by rw [hrm.out, rWhile_nil _ _ _ hnil]; simp)
                  have hsz0 := hid hsz
                  clear hnil hrm hsz
                  go_wp2_with fail
                  refine (left_any b st.1 st.2 wr HR.out).mono ?_
                  rintro e wl ⟨rfl, hBl⟩
                  have BE := hid (HB.out.trans (hBl.mono HB.out.size))
                  have RE := hid (show Rd wl b st.1 st.2 from Blk.below HR.out hBl HR.out.lt)
                  have OE := hid (HO.out.below hBl)
                  replace O1 := hid (O1.out.below hBl)
                  replace O2 := hid (O2.out.below hBl)
                  clear hBl HR HB HO
                  go_wp2_with fail
                  go_meet
                  exact ⟨O, st, OE.out, HOK.out, RE.out, HST.out, hsz0.out, hfin.out, BE.out, O1.out, O2.out⟩
            case inl =>
              as_aux_lemma =>
                subst hm0
                have hpos : ¬ (0 : Int) < ((0 : Nat) : Int) := by omega
                have hfin := hid (show rWhile r3 m3 s5 = (O, st) by rw [hrm.out]; simp [rWhile])
                have hsz0 := hid hsz
                clear hrm hsz
                go_wp2_with fail
                go_meet
                exact ⟨O, st, HO.out, HOK.out, HR.out, HST.out, hsz0.out, hfin.out, HB.out, O1.out, O2.out⟩
      case rest =>
        clear R5 B5 Z5 O1 O2
        obtain ⟨L3, p3, hO, hOK, hRd, hst, hsz, hrm, hB, h1, h2⟩ := hcut
        obtain ⟨A3, ca3, rfl⟩ := hO.form
        have O3 := hid hO
        have OK3 := hid hOK
        have R6 := hid hRd
        have K6 := hid hst
        have W3 := hrm
        have B6 := hid hB
        have M3 := hid (show L3.length ≤ 90000 by omega)
        have Z6 : p3.1.length ≤ 90000 := by omega
        have O1 := hid h1
        have O2 := hid h2
        clear hO hOK hRd hst hsz hrm hB h1 h2
        generalize wc = wk3 at *
        have hdn := done_any b p3.1 p3.2 wk3 R6.out
        have HOUT := hid (show outStk s.data.toList = ((L1, L2, L3), p3) by
          unfold outStk
          rw [← HS0.out, Hr1.out]
          simp only [Int.toNat_natCast, W1.out, Hr3.out, W2.out, Hr5.out, W3.out])
        have HRS := hid (show readStk s.data.toList = if p3 = ([], false) ∧ rightS L1 L2 L3 = true ∧ encStk L1 L2 L3 = s.data.toList then some (L1, L2, L3) else none by unfold readStk; rw [HOUT.out])
        obtain ⟨A1', ca1', e1, _, _, S1⟩ := O1.out.slr OK1.out
        injection e1 with e1a _ e1c
        subst e1a e1c
        obtain ⟨A2', ca2', e2, _, _, S2⟩ := O2.out.slr OK2.out
        injection e2 with e2a _ e2c
        subst e2a e2c
        obtain ⟨A3', ca3', e3, _, _, S3⟩ := O3.out.slr OK3.out
        injection e3 with e3a _ e3c
        subst e3a e3c
        have S1 := hid S1; have S2 := hid S2; have S3 := hid S3
        clear O1 O2 O3 W1 W2 W3 HOUT R6 Hr1 Hr3 Hr5
        have mx1 : L1.length ≤ maxLen := by have := M1.out; unfold maxLen; omega
        have mx2 : L2.length ≤ maxLen := by have := M2.out; unfold maxLen; omega
        have mx3 : L3.length ≤ maxLen := by have := M3.out; unfold maxLen; omega
        have mx1' : L1.length ≤ 1000000 := by have := M1.out; omega
        have HX1 := hid mx1; have HX1' := hid mx1'; have HX2 := hid mx2; have HX3 := hid mx3
        clear mx1 mx1' mx2 mx3
        cases hd : (!p3.2 && p3.1.isEmpty) with
        | false =>
          as_aux_lemma =>
            have hr := hid (show readStk s.data.toList = none by
              rw [HRS.out, if_neg]
              rintro ⟨h, _⟩
              rw [h] at hd
              simp at hd)
            rw [hd] at hdn
            have Hd := hid hdn
            clear hdn hd
            go_wp2_with fail
            refine Hd.out.mono ?_
            rintro e w7 ⟨rfl, hB7⟩
            have B7 := hid (B6.out.trans (hB7.mono B6.out.size))
            clear hB7
            go_wp2_with fail
            refine bodyPost_ret (v := .tuple #[.slice none 0 0, .slice none 0 0, .slice none 0 0, .bool false]) (by simp [results, Tryz.results6, go_sem]) rfl ?_
            rw [hr.out]
            exact ⟨rfl, B7.out⟩
        | true =>
          have hp3 := hid (show p3 = ([], false) by
            obtain ⟨l, bd⟩ := p3
            simp only at hd
            cases bd <;> simp_all)
          rw [hd] at hdn
          have Hd := hid hdn
          clear hdn hd
          go_wp2_with fail
          refine Hd.out.mono ?_
          rintro e w7 ⟨rfl, hB7⟩
          have B7 := hid (B6.out.trans (hB7.mono B6.out.size))
          have S17 := hid ((S1.out.below hB7).more hB7.size)
          have S27 := hid ((S2.out.below hB7).more hB7.size)
          have S37 := hid ((S3.out.below hB7).more hB7.size)
          clear hB7 Hd S1 S2 S3 B6
          have HRT := hid (sright_any A1 A2 A3 ca1 ca2 ca3 L1 L2 L3 w7 HX1'.out HX2.out HX3.out S17.out S27.out S37.out)
          cases hrt : rightS L1 L2 L3 with
          | false =>
            as_aux_lemma =>
              rw [hrt] at HRT
              have hr := hid (show readStk s.data.toList = none by
                rw [HRS.out, if_neg]
                rintro ⟨_, h, _⟩
                rw [h] at hrt
                cases hrt)
              clear hrt
              go_wp2_with fail
              refine HRT.out.mono ?_
              rintro e w8 ⟨rfl, hB8⟩
              have B8 := hid (B7.out.trans (hB8.mono B7.out.size))
              clear hB8
              go_wp2_with fail
              refine bodyPost_ret (v := .tuple #[.slice none 0 0, .slice none 0 0, .slice none 0 0, .bool false]) (by simp [results, Tryz.results6, go_sem]) rfl ?_
              rw [hr.out]
              exact ⟨rfl, B8.out⟩
          | true =>
            rw [hrt] at HRT
            have HRTT := hid hrt
            clear hrt
            go_wp2_with fail
            refine HRT.out.mono ?_
            rintro e w8 ⟨rfl, hB8⟩
            have B8 := hid (B7.out.trans (hB8.mono B7.out.size))
            have S18 := hid ((S17.out.below hB8).more hB8.size)
            have S28 := hid ((S27.out.below hB8).more hB8.size)
            have S38 := hid ((S37.out.below hB8).more hB8.size)
            clear hB8 S17 S27 S37 B7 HRT
            have hkd := hid (right_kd HRTT.out (fun k hk => (OK1.out k hk).2))
            have HBY := hid (sbytes_any A1 A2 A3 ca1 ca2 ca3 L1 L2 L3 w8 (by have := hkd.out.1; omega) (by have := hkd.out.2.1; omega) (by have := hkd.out.2.2.1; omega) hkd.out.2.2.2 S18.out S28.out S38.out (he.below B8.out))
            go_wp2_with fail
            refine HBY.out.mono ?_
            rintro e w9 ⟨rfl, hB9⟩
            have B9 := hid (B8.out.trans (hB9.mono B8.out.size))
            have S19 := hid ((S18.out.below hB9).more hB9.size)
            have S29 := hid ((S28.out.below hB9).more hB9.size)
            have S39 := hid ((S38.out.below hB9).more hB9.size)
            clear hB9 S18 S28 S38 B8 HBY
            by_cases heq : encStk L1 L2 L3 = s.data.toList
            case pos =>
              as_aux_lemma =>
                have hr := hid (show readStk s.data.toList = some (L1, L2, L3) by rw [HRS.out, if_pos ⟨hp3.out, HRTT.out, heq⟩])
                have hc : ((bs (encStk L1 L2 L3)).toList == s.toList) = true := by rw [heq, bs_of]; simp
                have hc2 : ((bs (encStk L1 L2 L3)).toList != s.toList) = false := by rw [heq, bs_of]; simp
                clear heq
                go_wp2_with fail
                refine bodyPost_ret (v := .tuple #[.slice A1 L1.length ca1, .slice A2 L2.length ca2, .slice A3 L3.length ca3, .bool true]) (by simp [results, Tryz.results6, go_sem]) rfl ?_
                rw [hr.out]
                exact ⟨A1, ca1, A2, ca2, A3, ca3, rfl, S19.out, S29.out, S39.out, (fun k hk => (OK1.out k hk).2), B9.out⟩
            case neg =>
              as_aux_lemma =>
                have hr := hid (show readStk s.data.toList = none by rw [HRS.out, if_neg]; rintro ⟨_, _, h⟩; exact heq h)
                have hne : (bs (encStk L1 L2 L3)).toList ≠ s.toList := by
                  intro h
                  rw [bs_list, toList_data9] at h
                  exact heq h
                have hc : ((bs (encStk L1 L2 L3)).toList == s.toList) = false := by simpa using hne
                have hc2 : ((bs (encStk L1 L2 L3)).toList != s.toList) = true := by simpa using hne
                clear heq hne
                go_wp2_with fail
                refine bodyPost_ret (v := .tuple #[.slice none 0 0, .slice none 0 0, .slice none 0 0, .bool false]) (by simp [results, Tryz.results6, go_sem]) rfl ?_
                rw [hr.out]
                exact ⟨rfl, B9.out⟩
end Go.Proofs.YtfpehakllnkaeaaGreatDoor
