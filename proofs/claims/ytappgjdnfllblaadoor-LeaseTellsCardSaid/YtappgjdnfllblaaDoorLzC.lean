
/- What the rows list holds, and the frame of a tied law's proof (WireH without the chapter's own types; DOOR: the number that the Tie text bears). -/
import Derived.Test.YtappgjdnfllblaaDoorLzA
import Derived.Test.YtappgjdnfllblaaDoorShelf
import Derived.Lib.ItoaLen
import Derived.Lib.ItoaMem
import Derived.Laws.IdiomStrings
import Derived.Test.YtappgjdnfllblaaDoorCards
import Derived.Test.YtappgjdnfllblaaDoorTie
import Derived.LaidMore
import Derived.Stop.Joined
import Derived.Stop.LaidErr
import Derived.Lib.LaidTab
set_option linter.unusedSimpArgs false
set_option linter.unusedVariables false
namespace Go.Proofs.YtappgjdnfllblaaDoor
instance : Rep ByteArray := ⟨1, fun _ _ cs s => cs = [.string s] ∧ s.size ≤ maxLen, fun _ _ h => h⟩
end Go.Proofs.YtappgjdnfllblaaDoor
namespace Go.Proofs.YtappgjdnfllblaaDoor
open Go.RowKit Go.IntWalk

/-- What the library's variables hold. -/
structure Env (w : World) : Prop where
  tab : Lib.TabIs Tryd.prog w "internal/strconv.uint64pow10" .u64 Lib.pow10Tab
  syn : ∃ tp p, w.var? Tryd.prog "strconv.ErrSyntax" = some #[.iface tp p]
  rng : ∃ tp p, w.var? Tryd.prog "strconv.ErrRange" = some #[.iface tp p]
theorem var_below {P : Program} {w w' : World} {n : String} {cs : Array Value} (h : w.var? P n = some cs) (hb : Below w.heap.size w w') : w'.var? P n = some cs := by
  unfold World.var? at h ⊢
  cases hg : P.globalNamed n with
  | none => rw [hg] at h; cases h
  | some g =>
    rw [hg] at h
    simp only [Option.bind_some] at h ⊢
    have hlt : g < w.heap.size := by
      rcases Nat.lt_or_ge g w.heap.size with h1 | h1
      · exact h1
      · rw [Array.getElem?_eq_none h1] at h; cases h
    rw [hb.block g hlt]
    exact h
theorem Env.below {w w' : World} (h : Env w) (hb : Below w.heap.size w w') : Env w' :=
  ⟨var_below h.tab hb, by obtain ⟨tp, p, h⟩ := h.syn; exact ⟨tp, p, var_below h hb⟩, by obtain ⟨tp, p, h⟩ := h.rng; exact ⟨tp, p, var_below h hb⟩⟩

/-- A string of bytes. -/
def bs (l : List UInt8) : ByteArray := ⟨l.toArray⟩
theorem bs_app (a b : List UInt8) : bs a ++ bs b = bs (a ++ b) := by
  apply ByteArray.ext
  simp [bs, ByteArray.data_append]
theorem bs_one (a : List UInt8) (b : Array UInt8) : bs a ++ (⟨b⟩ : ByteArray) = bs (a ++ b.toList) := by
  apply ByteArray.ext
  simp [bs, ByteArray.data_append]
theorem bs_of (s : ByteArray) : bs s.data.toList = s := by simp [bs]
theorem bs_size (l : List UInt8) : (bs l).size = l.length := by simp [bs, ByteArray.size]
theorem ret_str {a b : ByteArray} (h : a = b) : Ending.returned (.string a) = .returned (.string b) := by rw [h]
theorem below_grow (w : World) (os : Array Obj) : Below w.heap.size w (Sort.grow w os) :=
  ⟨rfl, rfl, rfl, by simp [Sort.grow], fun k hk => by simp [Sort.grow, Array.getElem?_append, hk]⟩
theorem itoa_any (n : Int) (h : I64 n) (w : World) (he : Env w) : Calls Tryd.prog 83 #[.int .i64 n] w fun e w' => e = .returned (.string (bs (Lib.itoa n))) ∧ Below w.heap.size w w' := by
  refine (Tryd.strconv_Itoa n h.1 h.2 w he.tab).mono ?_
  rintro e w' ⟨rfl, k, os, rfl⟩
  refine ⟨rfl, ?_⟩
  exact (below_drewN (Below.refl _ _) k).trans (show Below w.heap.size (w.drewN k) _ from below_grow (w.drewN k) os)

def encI (n : Int) : List UInt8 := Lib.itoa n ++ [59]
set_option maxRecDepth 100000 in
set_option maxHeartbeats 400000 in
theorem wInt_any (n : Int) (h : I64 n) (w : World) (he : Env w) : Calls Tryd.prog 60 #[.int .i64 n] w fun e w' => e = .returned (.string (bs (encI n))) ∧ Below w.heap.size w w' := by
  go_enter Tryd.func60, Tryd.ntmps60
  go_wp2_with fail
  refine (itoa_any n h w he).mono ?_
  rintro e w' ⟨rfl, hB⟩
  have hs : (bs (Lib.itoa n)).size ≤ 21 := by rw [bs_size]; exact Lib.itoa_length_le n h.1 h.2
  go_wp2_with fail
  go_ret
  exact ⟨ret_str (by rw [bs_one]; rfl), hB⟩

def encT (l : List UInt8) : List UInt8 := Lib.itoa l.length ++ [58] ++ l ++ [44]
theorem size_list (s : ByteArray) : s.size = s.data.toList.length := by rw [Array.length_toList]; rfl
theorem encT_bytes (s : ByteArray) : bs (Lib.itoa ↑s.size) ++ ⟨#[58]⟩ ++ s ++ ⟨#[44]⟩ = bs (encT s.data.toList) := by
  rw [bs_one, show s = bs s.data.toList from (bs_of s).symm, bs_app, bs_one, bs_of, size_list]
  rfl
set_option maxRecDepth 20000 in
set_option maxHeartbeats 400000 in
theorem digits_any (k : Nat) : ∀ (n : Int) (w : World), n.natAbs ≤ k → n ≤ 0 → -9223372036854775808 ≤ n →
    Calls Tryd.prog 86 #[.int .i64 n] w fun e w' => e = .returned (.string (bs (Lib.decDigits n.natAbs))) ∧ Below w.heap.size w w' := by
  induction k using Nat.strongRecOn with | _ k ih => ?_
  intro n w h1 h2 h3
  obtain ⟨d, hd⟩ : ∃ d, d = UInt8.ofNat (48 + n.natAbs % 10) := ⟨_, rfl⟩
  have hdn : (d.toNat : Int) = 48 + (n.natAbs % 10 : Nat) := by
    rw [hd]
    have : (UInt8.ofNat (48 + n.natAbs % 10)).toNat = 48 + n.natAbs % 10 := by
      first | exact UInt8.toNat_ofNat_of_lt' (by omega) | (show (48 + n.natAbs % 10) % 256 = _; omega)
    omega
  have hw : wrap64 (48 - n.tmod 10) % 256 = (d.toNat : Int) := by
    have ht : n.tmod 10 = -((n.natAbs % 10 : Nat) : Int) := by
      obtain ⟨m, rfl⟩ : ∃ m : Nat, n = -(m : Int) := ⟨n.natAbs, by omega⟩
      rw [Int.neg_tmod]
      simp only [Int.natAbs_neg, Int.natAbs_natCast]
      rfl
    rw [ht, hdn]
    unfold wrap64
    omega
  have hconv : (convert 132 9 (.slice (some ⟨w.heap.size, 0, none⟩) 1 1)).run Tryd.prog (w.alloc (Obj.cells #[.int .u8 (d.toNat : Int)] 5)) = .ok (.string (bs [d])) (w.alloc (Obj.cells #[.int .u8 (d.toNat : Int)] 5)) := by
    have := run_convert_bytes_back (P := Tryd.prog) (w.alloc (Obj.cells #[.int .u8 (d.toNat : Int)] 5)) 132 9 5 ⟨w.heap.size, 0, none⟩ 1 [d] Tryd.underlying132 Tryd.underlying5 Tryd.underlying9 (fun j hj => by
      have : j = 0 := by simpa using hj
      subst this
      simp [Addr.add, go_sem])
    exact this
  have Hdn := hid hdn
  have Hd := hid hd
  clear hdn hd
  by_cases hn : n > -10
  · go_enter Tryd.func86, Tryd.ntmps86
    go_wp2_with fail
    go_ret
    refine ⟨ret_str ?_, (Below.refl _ _).alloc (Nat.le_refl _) _⟩
    rw [Lib.decDigits_one (by omega), Hd.out, Nat.mod_eq_of_lt (by omega)]
  · have hq : n.tdiv 10 = -((n.natAbs / 10 : Nat) : Int) := by
      obtain ⟨m, rfl⟩ : ∃ m : Nat, n = -(m : Int) := ⟨n.natAbs, by omega⟩
      rw [Int.neg_tdiv]
      simp only [Int.natAbs_neg, Int.natAbs_natCast]
      rfl
    have hq1 := hid hq
    clear hq
    go_enter Tryd.func86, Tryd.ntmps86
    go_wp2_with fail
    refine (ih (n.natAbs / 10) (by omega) (n.tdiv 10) _ (by have := hq1.out; omega) (by have := hq1.out; omega) (by have := hq1.out; omega)).mono ?_
    rw [show (n.tdiv 10).natAbs = n.natAbs / 10 by rw [hq1.out, Int.natAbs_neg, Int.natAbs_natCast]]
    rintro e w' ⟨rfl, hB⟩
    have hs : (bs (Lib.decDigits (n.natAbs / 10))).size ≤ 21 := by
      rw [bs_size]
      have h4 := Lib.itoa_length_le ((n.natAbs / 10 : Nat) : Int) (by omega) (by omega)
      rw [Lib.itoa_nonneg] at h4
      exact h4
    have hs2 : (bs [d]).size = 1 := by rw [bs_size]; rfl
    go_wp2_with fail
    go_ret
    refine ⟨ret_str ?_, ((Below.refl _ _).alloc (Nat.le_refl _) _).trans (hB.mono (by simp))⟩
    rw [bs_app, Lib.decDigits.eq_1 n.natAbs, dif_neg (by omega), Hd.out]
end Go.Proofs.YtappgjdnfllblaaDoor
namespace Go.Proofs.YtappgjdnfllblaaDoor
open Go.RowKit Go.IntWalk

set_option maxRecDepth 100000 in
set_option maxHeartbeats 400000 in
theorem rInt_any (n : Int) (h : I64 n) (w : World) : Calls Tryd.prog 67 #[.int .i64 n] w fun e w' => e = .returned (.string (bs (encI n))) ∧ Below w.heap.size w w' := by
  have hbd := h.bd
  have hl := hid (Lib.itoa_length_le n h.1 h.2)
  by_cases hn : n < 0
  · have e1 := hid (show Lib.itoa n = 45 :: Lib.decDigits n.natAbs by unfold Lib.itoa; rw [if_pos hn])
    go_enter Tryd.func67, Tryd.ntmps67
    go_wp2_with fail
    refine (digits_any n.natAbs n w (Nat.le_refl _) (by omega) (by omega)).mono ?_
    rintro e w' ⟨rfl, hB⟩
    have hs : (bs (Lib.decDigits n.natAbs)).size ≤ 21 := by
      rw [bs_size]
      have := hl.out
      rw [e1.out] at this
      simp at this
      omega
    have hs1 : (({ data := #[45] } : ByteArray)).size = 1 := rfl
    go_wp2_with fail
    go_ret
    exact ⟨ret_str (by rw [show ({ data := #[45] } : ByteArray) = bs [45] from rfl, bs_app, bs_one, encI, e1.out]; rfl), hB⟩
  · have e1 := hid (show Lib.itoa n = Lib.decDigits n.natAbs by unfold Lib.itoa; rw [if_neg hn]; congr 1; omega)
    go_enter Tryd.func67, Tryd.ntmps67
    go_wp2_with fail
    refine (digits_any n.natAbs (-n) w (by omega) (by omega) (by omega)).mono ?_
    rw [Int.natAbs_neg]
    rintro e w' ⟨rfl, hB⟩
    have hs : (bs (Lib.decDigits n.natAbs)).size ≤ 21 := by
      rw [bs_size]
      have := hl.out
      rw [e1.out] at this
      omega
    go_wp2_with fail
    go_ret
    exact ⟨ret_str (by rw [bs_one, encI, e1.out]), hB⟩
theorem dig_len (n : Nat) (h : n ≤ 9223372036854775807) : (bs (Lib.decDigits n)).size ≤ 21 := by
  rw [bs_size]
  have h4 := Lib.itoa_length_le (n : Int) (by omega) (by omega)
  rw [Lib.itoa_nonneg] at h4
  exact h4
theorem SlR.str {w : World} {B : Nat} {A : Option Addr} {l : List ByteArray} (h : SlR w B A l) {k : Nat} (hk : k < l.length) : ∃ b off, A = some ⟨b, off, none⟩ ∧ b < B ∧ w.cell? ⟨b, off + k, none⟩ = some (.string l[k]) := by
  obtain ⟨b, off, es, hA, hb, _, hc, rfl, hi⟩ := h k _ (List.getElem?_eq_getElem hk)
  exact ⟨b, off, hA, hb, by have := hc 0 _ rfl; simpa [Rep.size] using this⟩

/-- What a list's encoding is: its elements' encodings are 'es'. -/
def encL (es : List (List UInt8)) : List UInt8 := Lib.itoa es.length ++ [91] ++ es.flatten ++ [93]
def hd (n : Nat) : List UInt8 := Lib.itoa n ++ [91]
theorem hd_len (n : Nat) (h : n ≤ 9223372036854775807) : (hd n).length ≤ 22 := by
  have := Lib.itoa_length_le (n : Int) (by omega) (by omega)
  simp [hd]; omega
theorem flat_le (es : List (List UInt8)) (k : Nat) : (es.take k).flatten.length ≤ es.flatten.length := by
  have : es.flatten = (es.take k).flatten ++ (es.drop k).flatten := by rw [← List.flatten_append, List.take_append_drop]
  rw [this, List.length_append]; omega
theorem flat_snoc (es : List (List UInt8)) (k : Nat) (h : k < es.length) : (es.take (k + 1)).flatten = (es.take k).flatten ++ es[k] := by
  rw [List.take_add_one, List.getElem?_eq_getElem h, List.flatten_append]
  show _ ++ [es[k]].flatten = _
  rw [List.flatten_cons, List.flatten_nil, List.append_nil]

set_option maxRecDepth 100000 in
set_option maxHeartbeats 1000000 in
theorem rNums_any (A : Option Addr) (c : Nat) (l : List Int) (w : World) (hl : (l.map encI).flatten.length ≤ 1000000000000) (hn : l.length ≤ 1000000000000) (hs : SlR w w.heap.size A l) :
    Calls Tryd.prog 68 #[.slice A l.length c] w fun e w' => e = .returned (.string (bs (encL (l.map encI)))) ∧ Below w.heap.size w w' := by
  have Hl := hid hl
  clear hl
  have HI := hid hs.ints
  go_enter Tryd.func68, Tryd.ntmps68
  go_wp2_with fail
  refine (digits_any l.length (-(l.length : Int)) w (by omega) (by omega) (by omega)).mono ?_
  rw [Int.natAbs_neg, Int.natAbs_natCast]
  rintro e w1 ⟨rfl, hB⟩
  have hz := dig_len l.length (by omega)
  go_wp2_with fail
  go_loopw [3, 4] (fun s i wr => ∃ k : Nat, k ≤ l.length ∧ i = .int .i64 k ∧ s = .string (bs (hd l.length ++ ((l.map encI).take k).flatten)) ∧ Below w.heap.size w wr) (fun _ i _ => l.length - (intOf i).toNat)
  case atStart => exact ⟨0, by omega, rfl, by simp [hd, Lib.itoa_nonneg, bs_one], hB⟩
  case round =>
    clear hB hz
    obtain ⟨k, hk, rfl, rfl, hB⟩ := hrel
    have hz1 : (bs (hd l.length ++ ((l.map encI).take k).flatten)).size ≤ 2000000000000 := by
      rw [bs_size, List.length_append]
      have := hd_len l.length (by omega)
      have := flat_le (l.map encI) k
      have := Hl.out
      omega
    by_cases hlt : k < l.length
    · obtain ⟨b, off, rfl, _, g1, hi⟩ := (hs.below hB).int hlt
      have hsn := hid (flat_snoc (l.map encI) k (by simpa using hlt))
      simp only [List.getElem_map] at hsn
      generalize l[k] = x at *
      go_wp2_with fail
      refine (rInt_any x hi _).mono ?_
      rintro e w2 ⟨rfl, hB2⟩
      have hz2 : (bs (encI x)).size ≤ 22 := by
        rw [bs_size, encI, List.length_append]
        have := Lib.itoa_length_le x hi.1 hi.2
        simp; omega
      go_wp2_with fail
      go_roundw
      case rel => exact ⟨k + 1, by omega, by go_num, by rw [bs_app, hsn.out, List.append_assoc], hB.trans (hB2.mono hB.size)⟩
      case measure => simp [intOf]; omega
    · have hkk : k = l.length := by omega
      subst hkk
      go_wp2_with fail
      go_ret
      exact ⟨ret_str (by rw [bs_one, encL, List.take_of_length_le (by simp)]; simp [hd]), hB⟩
def encB (s : ByteArray) : List UInt8 := encT s.data.toList
end Go.Proofs.YtappgjdnfllblaaDoor
namespace Go.Proofs.YtappgjdnfllblaaDoor
open Go.RowKit Go.IntWalk

theorem isB_below {T e : TypeId} {B b : Nat} {cs : List Value} {w w' : World} (h : Lib.IsBuilder T e B b cs w) (hb : Below w.heap.size w w') : Lib.IsBuilder T e B b cs w' := by
  have step : ∀ p, Lib.BuilderAt T e B b p cs w → Lib.BuilderAt T e B b p cs w' := by
    rintro p ⟨h1, v, h2, h3, h4⟩
    refine ⟨h1, v, (hb.block b (Array.getElem?_eq_some_iff.1 h2).1).trans h2, ?_, h4⟩
    refine ⟨h3.1, ?_⟩
    rcases h3.2 with h0 | ⟨g, cap, cur, hv, hg, hbk, r⟩
    · exact .inl h0
    · exact .inr ⟨g, cap, cur, hv, hg, (hb.block g (Array.getElem?_eq_some_iff.1 hbk).1).trans hbk, r⟩
  rcases h with h | h
  · exact .inl (step _ h)
  · exact .inr (step _ h)

set_option maxRecDepth 100000 in
set_option maxHeartbeats 1000000 in
theorem listI_any (A : Option Addr) (c : Nat) (l : List Int) (w : World) (hl : (l.map encI).flatten.length ≤ 1000000000000) (hn : l.length ≤ 1000000000000) (hs : SlR w w.heap.size A l) (he : Env w) :
    Calls Tryd.prog 85 #[.slice A l.length c, .func (.func 60) #[] #[]] w fun e w' => e = .returned (.string (bs (encL (l.map encI)))) ∧ Below w.heap.size w w' := by
  have Hl := hid hl
  clear hl
  have HI := hid hs.ints
  have hIn : I64 (l.length : Int) := ⟨by omega, by omega⟩
  go_enter Tryd.func85, Tryd.ntmps85
  go_wp2_with fail
  refine (itoa_any l.length hIn _ (he.below (by (repeat (first | exact Below.refl _ _ | assumption | refine below_drewN ?_ _ | refine Below.drew ?_ | refine Below.alloc ?_ (by (try simp); (try omega)) _ | refine Below.setCell ?_ (by (try simp); (try omega)) _))))).mono ?_
  rintro e w1 ⟨rfl, hB⟩
  have hz : (bs (Lib.itoa l.length)).size ≤ 21 := by rw [bs_size]; exact Lib.itoa_length_le _ hIn.1 hIn.2
  have hb0 : Lib.IsBuilder 134 5 w.heap.size w.heap.size (Lib.byteCells []) w1 := isB_below (Lib.fresh_isBuilder 134 5 w) hB
  have hB1 : Below w.heap.size w w1 := ((Below.refl _ w).alloc (Nat.le_refl _) _).trans (hB.mono (by simp))
  clear hB
  have Hz := hid hz
  go_wp2_with fail
  rw [bs_one]
  refine (Tryd.Builder_WriteString w.heap.size w.heap.size _ (bs (hd l.length)) w1 hb0 (by rw [bs_size]; have := hd_len l.length (by omega); simp [Lib.byteCells]; omega) hB1.size).mono ?_
  rintro e w2 ⟨rfl, hb2, hB2⟩
  have hB3 := hB1.trans hB2
  have hb3 : Lib.IsBuilder 134 5 w.heap.size w.heap.size (Lib.byteCells (hd l.length)) w2 := .inr hb2
  clear hb0 hb2 hB2 hB1 hz Hz
  go_wp2_with fail
  go_loopw [15] (fun i wr => ∃ k : Nat, k ≤ l.length ∧ i = .int .i64 k ∧ Hid (Lib.IsBuilder 134 5 w.heap.size w.heap.size (Lib.byteCells (hd l.length ++ ((l.map encI).take k).flatten)) wr) ∧ Below w.heap.size w wr) (fun i _ => l.length - (intOf i).toNat)
  case atStart => exact ⟨0, by omega, rfl, by simpa [Hid] using hb3, hB3⟩
  case round =>
    clear hb3 hB3
    obtain ⟨k, hk, rfl, hbk, hB⟩ := hrel
    have hz1 := hid (show (hd l.length ++ ((l.map encI).take k).flatten).length ≤ 2000000000000 by
      rw [List.length_append]
      have := hd_len l.length (by omega)
      have := flat_le (l.map encI) k
      have := Hl.out
      omega)
    by_cases hlt : k < l.length
    · obtain ⟨b, off, rfl, _, g1, hi⟩ := (hs.below hB).int hlt
      have hsn := hid (flat_snoc (l.map encI) k (by simpa using hlt))
      simp only [List.getElem_map] at hsn
      generalize l[k] = x at *
      go_wp2_with fail
      refine (wInt_any x hi _ (he.below hB)).mono ?_
      rintro e w3 ⟨rfl, hB3⟩
      have hb4 := isB_below hbk.out hB3
      have hB4 := hB.trans (hB3.mono hB.size)
      have hz2 : (bs (encI x)).size ≤ 22 := by
        rw [bs_size, encI, List.length_append]
        have := Lib.itoa_length_le x hi.1 hi.2
        simp; omega
      have Hz2 := hid hz2
      clear hz2 hB3 hbk hB
      go_wp2_with fail
      refine (Tryd.Builder_WriteString w.heap.size w.heap.size _ (bs (encI x)) w3 hb4 (by rw [Lib.byteCells_length]; have := hz1.out; have := Hz2.out; omega) hB4.size).mono ?_
      rintro e w4 ⟨rfl, hb5, hB5⟩
      have hb6 : Lib.IsBuilder 134 5 w.heap.size w.heap.size (Lib.byteCells (hd l.length ++ ((l.map encI).take (k + 1)).flatten)) w4 := by
        have : Lib.byteCells (hd l.length ++ ((l.map encI).take (k + 1)).flatten) = Lib.byteCells (hd l.length ++ ((l.map encI).take k).flatten) ++ Lib.strCells (bs (encI x)) := by
          rw [hsn.out, ← List.append_assoc]
          simp [Lib.byteCells, Lib.strCells, bs]
        rw [this]
        exact .inr hb5
      have Hb6 := hid hb6
      clear hb6 hb5 hb4
      go_wp2_with fail
      go_roundw
      case rel => exact ⟨k + 1, by omega, by go_num, Hb6, hB4.trans hB5⟩
      case measure => simp [intOf]; omega
    · have hkk : k = l.length := by omega
      subst hkk
      go_wp2_with fail
      refine (Tryd.Builder_String_any w.heap.size w.heap.size _ wr hbk.out hB.size).mono ?_
      rintro e w3 ⟨rfl, hB3⟩
      obtain ⟨S, hS⟩ : ∃ S, S = bs (hd l.length ++ ((l.map encI).take l.length).flatten) := ⟨_, rfl⟩
      rw [show (⟨(hd l.length ++ ((l.map encI).take l.length).flatten).toArray⟩ : ByteArray) = S from hS.symm]
      have hz3 : S.size ≤ 2000000000000 := by rw [hS, bs_size]; exact hz1.out
      have HS := hid hS
      clear hS
      go_wp2_with fail
      go_ret
      exact ⟨ret_str (by rw [HS.out, bs_one, encL, List.take_of_length_le (by simp)]; simp [hd]), hB.trans hB3⟩
set_option maxRecDepth 100000 in
set_option maxHeartbeats 400000 in
theorem wNums_any (A : Option Addr) (c : Nat) (l : List Int) (w : World) (hl : (l.map encI).flatten.length ≤ 1000000000000) (hn : l.length ≤ 1000000000000) (hs : SlR w w.heap.size A l) (he : Env w) :
    Calls Tryd.prog 64 #[.slice A l.length c] w fun e w' => e = .returned (.string (bs (encL (l.map encI)))) ∧ Below w.heap.size w w' := by
  have H := hid (listI_any A c l w hl hn hs he)
  go_enter Tryd.func64, Tryd.ntmps64
  go_wp2_with fail
  refine H.out.mono ?_
  rintro e w1 ⟨rfl, hB⟩
  go_wp2_with fail
  go_ret
  exact ⟨rfl, hB⟩
end Go.Proofs.YtappgjdnfllblaaDoor
namespace Go.Proofs.YtappgjdnfllblaaDoor
open Go.RowKit Go.IntWalk

theorem bs_list (l : List UInt8) : (bs l).toList = l := by
  have h : (bs l).toList = (bs l).data.toList := by first | exact ByteArray.toList_eq_data_toList _ | rw [ByteArray.toList_eq] | simp
  rw [h]; simp [bs]
theorem bs_extract (l : List UInt8) (i j : Nat) : (bs l).extract i j = bs ((l.take j).drop i) := by
  apply ByteArray.ext
  rw [ByteArray.data_extract]
  simp [bs, List.extract_toArray, List.drop_take]
theorem head_of (l : List UInt8) : (bs l).extract 0 (min ((bs l).size : Int) 21).toNat = bs (l.take 21) := by
  rw [bs_extract, bs_size, List.drop_zero]
  congr 1
  by_cases h : l.length ≤ 21
  · rw [show (min (l.length : Int) 21).toNat = l.length by omega, List.take_of_length_le (Nat.le_refl _), List.take_of_length_le h]
  · rw [show (min (l.length : Int) 21).toNat = 21 by omega]
/-- Block b is a reader with these bytes left, failed or not. -/
def Rd (w : World) (b : Nat) (l : List UInt8) (bad : Bool) : Prop := Blk w b 112 #[.string (bs l), .bool bad]
theorem blk2' {w : World} {g : Nat} {t : TypeId} {a b : Value} (h : Blk w g t #[a, b]) : w.cell? ⟨g, 0, none⟩ = some a ∧ w.cell? ⟨g, 1, none⟩ = some b := ⟨h.cell 0, h.cell 1⟩
theorem grown_trans {w w1 w2 : World} {r : Option Nat} (h : w.grownBy w1 r) (h2 : w1.grownBy w2 r) : w.grownBy w2 r :=
  ⟨h2.os.trans h.os, h2.tape.trans h.tape, h2.output.trans h.output, Nat.le_trans h.size h2.size, fun k hk hne => (h2.block k (Nat.lt_of_lt_of_le hk h.size) hne).trans (h.block k hk hne)⟩
theorem grown_below {w w1 : World} {r : Option Nat} (h : Below w.heap.size w w1) : w.grownBy w1 r := ⟨h.os, h.tape, h.output, h.size, fun k hk _ => h.block k hk⟩
theorem grown_set (w : World) (b i : Nat) (u : Value) : w.grownBy (w.setCell ⟨b, i, none⟩ u) (some b) :=
  ⟨rfl, rfl, rfl, by simp, fun k _ hne => Below.heap_setCell w ⟨b, i, none⟩ u k (fun e => hne (by rw [e]))⟩

set_option maxRecDepth 100000 in
set_option maxHeartbeats 400000 in
theorem fail_any (b : Nat) (l : List UInt8) (bad : Bool) (w : World) (h : Rd w b l bad) :
    Calls Tryd.prog 89 #[.pointer (some ⟨b, 0, none⟩)] w fun e w' => e = .returned (.tuple #[]) ∧ Rd w' b [] true ∧ w.grownBy w' (some b) := by
  obtain ⟨c0, c1⟩ := blk2' h
  have f0 := h.frozen 0
  have f1 := h.frozen 1
  have hz := h.lt
  go_enter Tryd.func89, Tryd.ntmps89
  go_wp2_with fail
  go_end0
  refine ⟨rfl, ?_, grown_trans (grown_set _ _ _ _) (grown_set _ _ _ _)⟩
  have := (Blk.set_ h 0 (.string ⟨#[]⟩)).set_ 1 (.bool true)
  simpa [Rd, bs] using this
set_option maxRecDepth 100000 in
set_option maxHeartbeats 400000 in
theorem open_any (s : ByteArray) (w : World) :
    Calls Tryd.prog 48 #[.string s] w fun e w' => e = .returned (.pointer (some ⟨w.heap.size, 0, none⟩)) ∧ Rd w' w.heap.size s.data.toList false ∧ Below w.heap.size w w' := by
  go_enter Tryd.func48, Tryd.ntmps48
  go_wp2_with fail
  go_ret
  refine ⟨rfl, ?_, (Below.refl _ _).alloc (Nat.le_refl _) _⟩
  unfold Rd
  rw [bs_of]
  exact Blk.new _ _ _
set_option maxRecDepth 100000 in
set_option maxHeartbeats 400000 in
theorem done_any (b : Nat) (l : List UInt8) (bad : Bool) (w : World) (h : Rd w b l bad) :
    Calls Tryd.prog 50 #[.pointer (some ⟨b, 0, none⟩)] w fun e w' => e = .returned (.bool (!bad && l.isEmpty)) ∧ Below w.heap.size w w' := by
  obtain ⟨c0, c1⟩ := blk2' h
  cases bad with
  | true =>
    go_enter Tryd.func50, Tryd.ntmps50
    go_wp2_with fail
    go_ret
    exact ⟨rfl, by (repeat (first | exact Below.refl _ _ | assumption | refine below_drewN ?_ _ | refine Below.drew ?_ | refine Below.alloc ?_ (by (try simp); (try omega)) _ | refine Below.setCell ?_ (by (try simp); (try omega)) _))⟩
  | false =>
    go_enter Tryd.func50, Tryd.ntmps50
    go_wp2_with fail
    go_ret
    exact ⟨ret_bool (by rw [bs_list]; rfl), by (repeat (first | exact Below.refl _ _ | assumption | refine below_drewN ?_ _ | refine Below.drew ?_ | refine Below.alloc ?_ (by (try simp); (try omega)) _ | refine Below.setCell ?_ (by (try simp); (try omega)) _))⟩

theorem indexByte_lt : ∀ (l : List UInt8) (c : UInt8), 0 ≤ Lib.indexByte l c → Lib.indexByte l c < l.length
  | [], c, h => by simp [Lib.indexByte] at h
  | x :: l, c, h => by
    have ih := indexByte_lt l c
    unfold Lib.indexByte at h ⊢
    simp only [List.length_cons]
    split at h <;> (try split at h) <;> simp_all <;> omega
def numL (l : List UInt8) (en : UInt8) (least : Int) : Option (Int × List UInt8) :=
  if Lib.indexByte (l.take 21) en < 0 then none else
  match Lib.atoiAll ((l.take 21).take (Lib.indexByte (l.take 21) en).toNat) with
  | .ok v => if Lib.itoa v = (l.take 21).take (Lib.indexByte (l.take 21) en).toNat ∧ least ≤ v then some (v, l.drop ((Lib.indexByte (l.take 21) en).toNat + 1)) else none
  | _ => none
/-- What a reader's call leaves. -/
def RdRes (w : World) (b : Nat) (bad : Bool) (r : Option (Int × List UInt8)) (e : Ending) (w' : World) : Prop :=
  match r with
  | some (v, l) => e = .returned (.int .i64 v) ∧ Rd w' b l bad ∧ w.grownBy w' (some b)
  | none => e = .returned (.int .i64 0) ∧ Rd w' b [] true ∧ w.grownBy w' (some b)
theorem rdRes_none {w w' : World} {b : Nat} {bad : Bool} {r : Option (Int × List UInt8)} {e : Ending} (hr : r = none) (he : e = .returned (.int .i64 0)) (h1 : Rd w' b [] true) (h2 : w.grownBy w' (some b)) : RdRes w b bad r e w' := by
  subst hr; exact ⟨he, h1, h2⟩
set_option maxRecDepth 100000 in
set_option maxHeartbeats 1000000 in
theorem number_any (b : Nat) (l : List UInt8) (bad : Bool) (en : UInt8) (least : Int) (w : World) (h : Rd w b l bad) (hl : l.length ≤ 1000000000000) (he : Env w) :
    Calls Tryd.prog 77 #[.pointer (some ⟨b, 0, none⟩), .int .u8 en.toNat, .int .i64 least] w (RdRes w b bad (numL l en least)) := by
  obtain ⟨c0, c1⟩ := blk2' h
  have hz : (bs l).size ≤ 1000000000000 := by rw [bs_size]; exact hl
  go_enter Tryd.func77, Tryd.ntmps77
  go_upto_region 1 with fail
  go_quiet (fail)
  rename_i nq
  go_wp2_with fail
  rw [head_of]
  refine (Tryd.strings_IndexByte _ _ _).mono ?_
  rw [show Lib.indexByte (bs (l.take 21)).data.toList ((en.toNat : Int).toNat.toUInt8) = Lib.indexByte (l.take 21) en by simp [bs]]
  rintro e w1 ⟨rfl, rfl⟩
  obtain ⟨at_, hat⟩ : ∃ x, x = Lib.indexByte (l.take 21) en := ⟨_, rfl⟩
  rw [← hat]
  have Hat := hid hat
  clear hat
  by_cases h0 : at_ < 0
  · have hr := hid (show numL l en least = none by unfold numL; rw [← Hat.out, if_pos h0])
    go_wp2_with fail
    refine (fail_any b l bad _ (h.drewN _)).mono ?_
    rintro e w2 ⟨rfl, h2, hg⟩
    go_wp2_with fail
    go_ret
    exact rdRes_none hr.out rfl h2 (grown_trans (grown_below (by (repeat (first | exact Below.refl _ _ | assumption | refine below_drewN ?_ _ | refine Below.drew ?_ | refine Below.alloc ?_ (by (try simp); (try omega)) _ | refine Below.setCell ?_ (by (try simp); (try omega)) _)))) hg)
  · obtain ⟨k, rfl⟩ : ∃ k : Nat, at_ = k := ⟨at_.toNat, by omega⟩
    clear h0
    have hk0 := indexByte_lt (l.take 21) en (by rw [← Hat.out]; omega)
    rw [← Hat.out] at hk0
    have hk1 := hid (show k < l.length by have := List.length_take_le 21 l; simp at hk0; omega)
    have hk : k ≤ (bs (l.take 21)).size := by rw [bs_size]; omega
    have hk2 : (k : Int) + 1 ≤ (bs l).size := by rw [bs_size]; have := hk1.out; omega
    have hk21 := hid (show k < 21 by have := List.length_take_le 21 l; omega)
    clear hk0
    go_wp2_with fail
    rw [bs_extract, List.drop_zero]
    obtain ⟨d, hd⟩ : ∃ d, d = (l.take 21).take k := ⟨_, rfl⟩
    rw [← hd]
    have Hd := hid hd
    have hdl := hid (show d.length ≤ 21 by rw [hd]; simp; omega)
    clear hd
    have hnum := hid (show numL l en least = (match Lib.atoiAll d with
        | .ok v => if Lib.itoa v = d ∧ least ≤ v then some (v, l.drop (k + 1)) else none
        | _ => none) by unfold numL; rw [← Hat.out, if_neg (by omega), Int.toNat_natCast, ← Hd.out])
    have hba : (bs d).data.toList = d := by simp [bs]
    have hex := hid (show (bs (l.take 21)).extract 0 k = bs d by rw [bs_extract, List.drop_zero, ← Hd.out])
    rcases hat : Lib.atoiAll d with v | _ | _
    · rw [hat] at hnum
      refine (Tryd.strconv_Atoi_ok (bs d) (by rw [bs_size]; have := hdl.out; omega) v (by rw [hba]; exact hat) _).mono ?_
      clear hba
      have hbd := Lib.atoiAll_bounds hat
      clear hat
      rintro e w2 ⟨rfl, hw2⟩
      have hB : Below (w.drewN nq).heap.size (w.drewN nq) w2 := by
        rcases hw2 with rfl | ⟨t, rfl⟩
        · exact Below.refl _ _
        · exact Lib.bytesWorld_below _ _ _
      clear hw2
      have h2 : Rd w2 b l bad := Blk.below (h.drewN nq) hB (h.drewN nq).lt
      have hB2 : Below w.heap.size w w2 := (below_drewN (Below.refl _ w) nq).trans hB
      obtain ⟨c0, c1⟩ := blk2' h2
      have hI : I64 v := ⟨hbd.1, hbd.2⟩
      have hx := fun x : Ext (GB w2) => GB.cell x
      have cs := hid fun x : Ext (GB w2) => GB.call (x := x) (v := .string (bs (Lib.itoa v))) (itoa_any v hI x.w (he.below (hB2.trans (x.h.out.mono hB2.size))))
      have hbl : ((bs (l.take 21)).extract 0 k).toList = d := by rw [hex.out, bs_list]
      by_cases hv : Lib.itoa v = d
      · have hcmp : ((bs (Lib.itoa v)).toList == ((bs (l.take 21)).extract 0 k).toList) = true := by rw [hbl, bs_list, hv]; simp
        clear hbl
        by_cases hlv : least ≤ v
        · have hr := hid (show numL l en least = some (v, l.drop (k + 1)) by rw [hnum.out]; simp [hv, hlv])
          have Hv := hid hv
          clear hv
          go_upto_region 7 with fail
          refine wp_region_ext (GB w2) (by kernel_rfl) (by kernel_rfl) (GB.refl _) ?_
          repeat (go_big_quiet_step (exact cs.out _))
          refine wpQuiet_nil ?_
          intro w3 hG2
          clear hx cs
          have h3 : Rd w3 b l bad := h2.below hG2.out h2.lt
          have hB3 := hB2.trans (hG2.out.mono hB2.size)
          clear hG2 c0 c1
          obtain ⟨c0, c1⟩ := blk2' h3
          have f0 := h3.frozen 0
          have hz3 := h3.lt
          go_wp2_with fail
          go_ret
          rw [hr.out]
          refine ⟨rfl, ?_, grown_trans (grown_below hB3) (grown_set _ _ _ _)⟩
          have h4 := Blk.set_ h3 0 (.string (bs (l.drop (k + 1))))
          have e4 : (bs l).extract (k + 1) (bs l).size = bs (l.drop (k + 1)) := by rw [bs_extract, bs_size, List.take_length]
          unfold Rd
          rw [← e4] at h4 ⊢
          simpa using h4
        · have hr := hid (show numL l en least = none by rw [hnum.out]; simp [hv, hlv])
          have hlv' : v < least := by omega
          clear hv hlv
          go_upto_region 7 with fail
          refine wp_region_ext (GB w2) (by kernel_rfl) (by kernel_rfl) (GB.refl _) ?_
          repeat (go_big_quiet_step (exact cs.out _))
          refine wpQuiet_nil ?_
          intro w3 hG2
          clear hx cs
          go_wp2_with fail
          refine (fail_any b l bad _ (h2.below hG2.out h2.lt)).mono ?_
          rintro e w4 ⟨rfl, h3, hg⟩
          go_wp2_with fail
          go_ret
          exact rdRes_none hr.out rfl h3 (grown_trans (grown_below (hB2.trans (hG2.out.mono hB2.size))) hg)
      · have hcmp : ((bs (Lib.itoa v)).toList == ((bs (l.take 21)).extract 0 k).toList) = false := by rw [hbl, bs_list]; simp [hv]
        have hr := hid (show numL l en least = none by rw [hnum.out]; simp [hv])
        clear hbl hv
        go_upto_region 7 with fail
        refine wp_region_ext (GB w2) (by kernel_rfl) (by kernel_rfl) (GB.refl _) ?_
        repeat (go_big_quiet_step (exact cs.out _))
        refine wpQuiet_nil ?_
        intro w3 hG2
        clear hx cs
        go_wp2_with fail
        refine (fail_any b l bad _ (h2.below hG2.out h2.lt)).mono ?_
        rintro e w4 ⟨rfl, h3, hg⟩
        go_wp2_with fail
        go_ret
        exact rdRes_none hr.out rfl h3 (grown_trans (grown_below (hB2.trans (hG2.out.mono hB2.size))) hg)
    · rw [hat] at hnum
      obtain ⟨tp, p, hv⟩ := he.syn
      refine (Tryd.strconv_Atoi_syn_var (bs d) (by rw [bs_size]; have := hdl.out; omega) (by rw [hba]; exact hat) tp p _ (var_below hv (by (repeat (first | exact Below.refl _ _ | assumption | refine below_drewN ?_ _ | refine Below.drew ?_ | refine Below.alloc ?_ (by (try simp); (try omega)) _ | refine Below.setCell ?_ (by (try simp); (try omega)) _))))).mono ?_
      clear hat hv hba hex
      rintro e w2 ⟨N, rfl, _, _, hB⟩
      have h2 : Rd w2 b l bad := Blk.below (h.drewN nq) hB (h.drewN nq).lt
      have hB2 : Below w.heap.size w w2 := (below_drewN (Below.refl _ w) nq).trans hB
      obtain ⟨c0, c1⟩ := blk2' h2
      go_upto_region 7 with fail
      go_quiet (fail)
      go_wp2_with fail
      refine (fail_any b l bad _ (h2.drewN _)).mono ?_
      rintro e w3 ⟨rfl, h3, hg⟩
      go_wp2_with fail
      go_ret
      exact rdRes_none hnum.out rfl h3 (grown_trans (grown_below (by (repeat (first | exact Below.refl _ _ | assumption | refine below_drewN ?_ _ | refine Below.drew ?_ | refine Below.alloc ?_ (by (try simp); (try omega)) _ | refine Below.setCell ?_ (by (try simp); (try omega)) _)))) hg)
    · rw [hat] at hnum
      obtain ⟨tp, p, hv⟩ := he.rng
      refine (Tryd.strconv_Atoi_range_var (bs d) (by rw [bs_size]; have := hdl.out; omega) (by rw [hba]; exact hat) tp p _ (var_below hv (by (repeat (first | exact Below.refl _ _ | assumption | refine below_drewN ?_ _ | refine Below.drew ?_ | refine Below.alloc ?_ (by (try simp); (try omega)) _ | refine Below.setCell ?_ (by (try simp); (try omega)) _))))).mono ?_
      clear hat hv hba hex
      rintro e w2 ⟨N, rfl, _, _, hB⟩
      have h2 : Rd w2 b l bad := Blk.below (h.drewN nq) hB (h.drewN nq).lt
      have hB2 : Below w.heap.size w w2 := (below_drewN (Below.refl _ w) nq).trans hB
      obtain ⟨c0, c1⟩ := blk2' h2
      go_upto_region 7 with fail
      go_quiet (fail)
      go_wp2_with fail
      refine (fail_any b l bad _ (h2.drewN _)).mono ?_
      rintro e w3 ⟨rfl, h3, hg⟩
      go_wp2_with fail
      go_ret
      exact rdRes_none hnum.out rfl h3 (grown_trans (grown_below (by (repeat (first | exact Below.refl _ _ | assumption | refine below_drewN ?_ _ | refine Below.drew ?_ | refine Below.alloc ?_ (by (try simp); (try omega)) _ | refine Below.setCell ?_ (by (try simp); (try omega)) _)))) hg)
end Go.Proofs.YtappgjdnfllblaaDoor
namespace Go.Proofs.YtappgjdnfllblaaDoor
open Go.RowKit Go.IntWalk

end Go.Proofs.YtappgjdnfllblaaDoor
namespace Go.Proofs.YtappgjdnfllblaaDoor
open Go.RowKit Go.IntWalk

set_option maxRecDepth 100000 in
set_option maxHeartbeats 400000 in
theorem int_any (b : Nat) (l : List UInt8) (bad : Bool) (w : World) (h : Rd w b l bad) (hl : l.length ≤ 1000000000000) (he : Env w) :
    Calls Tryd.prog 49 #[.pointer (some ⟨b, 0, none⟩)] w (RdRes w b bad (numL l 59 (-9223372036854775808))) := by
  have H := hid (number_any b l bad 59 (-9223372036854775808) w h hl he)
  cases hr : numL l 59 (-9223372036854775808) with
  | none =>
    rw [hr] at H
    go_enter Tryd.func49, Tryd.ntmps49
    go_wp2_with fail
    refine H.out.mono ?_
    rintro e w1 ⟨rfl, h1, h2⟩
    go_wp2_with fail
    go_ret
    exact ⟨rfl, h1, h2⟩
  | some x =>
    obtain ⟨v, l'⟩ := x
    rw [hr] at H
    go_enter Tryd.func49, Tryd.ntmps49
    go_wp2_with fail
    refine H.out.mono ?_
    rintro e w1 ⟨rfl, h1, h2⟩
    go_wp2_with fail
    go_ret
    exact ⟨rfl, h1, h2⟩

/-- One byte read. -/
def cutL (l : List UInt8) (c : UInt8) : Option (List UInt8) :=
  match l with
  | [] => none
  | x :: r => if x = c then some r else none
def ClRes (w : World) (b : Nat) (bad : Bool) (r : Option (List UInt8)) (e : Ending) (w' : World) : Prop :=
  e = .returned (.tuple #[]) ∧ w.grownBy w' (some b) ∧ match r with
    | some l => Rd w' b l bad
    | none => Rd w' b [] true
set_option maxRecDepth 100000 in
set_option maxHeartbeats 400000 in
theorem close_any (b : Nat) (l : List UInt8) (bad : Bool) (c : UInt8) (w : World) (h : Rd w b l bad) :
    Calls Tryd.prog 93 #[.pointer (some ⟨b, 0, none⟩), .string ⟨#[c]⟩] w (ClRes w b bad (cutL l c)) := by
  obtain ⟨c0, c1⟩ := blk2' h
  have f0 := h.frozen 0
  have hz := h.lt
  have hp : Lib.hasPrefix l [c] = (cutL l c).isSome := by
    cases l with
    | nil => simp [Lib.hasPrefix, cutL]
    | cons x r =>
      simp only [Lib.hasPrefix, cutL, List.isPrefixOf]
      by_cases hx : x = c
      · simp [hx]
      · have : (c == x) = false := by simp [Ne.symm hx]
        simp [hx, this]
  have Hp := hid hp
  clear hp
  cases hc : cutL l c with
  | none =>
    have Hc := hid hc
    rw [hc] at Hp
    clear hc
    go_enter Tryd.func93, Tryd.ntmps93
    go_wp2_with fail
    refine (Tryd.strings_CutPrefix _ _ _).mono ?_
    rw [show Lib.hasPrefix (bs l).data.toList (⟨#[c]⟩ : ByteArray).data.toList = false from by have := Hp.out; simpa [bs] using this]
    rintro e w1 ⟨rfl, rfl⟩
    generalize (⟨(Lib.trimPrefix (bs l).data.toList (⟨#[c]⟩ : ByteArray).data.toList).toArray⟩ : ByteArray) = S
    go_wp2_with fail
    refine (fail_any b S.data.toList bad _ ?_).mono ?_
    · have := Blk.set_ h 0 (.string S)
      unfold Rd
      rw [bs_of]
      simpa using this
    rintro e w2 ⟨rfl, h2, hg⟩
    go_wp2_with fail
    go_end0
    exact ⟨rfl, grown_trans (grown_set _ _ _ _) hg, h2⟩
  | some r =>
    have Hc := hid hc
    rw [hc] at Hp
    clear hc
    go_enter Tryd.func93, Tryd.ntmps93
    go_wp2_with fail
    refine (Tryd.strings_CutPrefix _ _ _).mono ?_
    rw [show Lib.hasPrefix (bs l).data.toList (⟨#[c]⟩ : ByteArray).data.toList = true from by have := Hp.out; simpa [bs] using this,
      show (⟨(Lib.trimPrefix (bs l).data.toList (⟨#[c]⟩ : ByteArray).data.toList).toArray⟩ : ByteArray) = bs r from by
        have h1 := Hp.out
        have h2 := Hc.out
        have e1 : (bs l).data.toList = l := by simp [bs]
        rw [e1]
        show bs (Lib.trimPrefix l [c]) = bs r
        simp only [Option.isSome_some] at h1
        rw [Lib.trimPrefix, if_pos h1]
        cases l with
        | nil => simp [cutL] at h2
        | cons x t =>
          by_cases hx : x = c
          · simp [cutL, hx] at h2
            simp [h2]
          · simp [cutL, hx] at h2]
    rintro e w1 ⟨rfl, rfl⟩
    go_wp2_with fail
    go_end0
    refine ⟨rfl, grown_set _ _ _ _, ?_⟩
    have := Blk.set_ h 0 (.string (bs r))
    unfold Rd
    simpa using this

def textL (l : List UInt8) : Option (List UInt8 × List UInt8) :=
  match numL l 58 0 with
  | none => none
  | some (n, l1) => if (l1.length : Int) < n then none else (cutL (l1.drop n.toNat) 44).map fun r => (l1.take n.toNat, r)
def TxRes (w : World) (b : Nat) (r : Option (List UInt8 × List UInt8)) (e : Ending) (w' : World) : Prop :=
  match r with
  | some (s, l) => e = .returned (.string (bs s)) ∧ Rd w' b l false ∧ w.grownBy w' (some b)
  | none => e = .returned (.string ⟨#[]⟩) ∧ Rd w' b [] true ∧ w.grownBy w' (some b)
theorem txRes_none {w w' : World} {b : Nat} {r : Option (List UInt8 × List UInt8)} {e : Ending} (hr : r = none) (he : e = .returned (.string ⟨#[]⟩)) (h1 : Rd w' b [] true) (h2 : w.grownBy w' (some b)) : TxRes w b r e w' := by
  subst hr; exact ⟨he, h1, h2⟩
theorem numL_shorter {l : List UInt8} {c : UInt8} {m v : Int} {r : List UInt8} (h : numL l c m = some (v, r)) : r.length ≤ l.length ∧ m ≤ v := by
  unfold numL at h
  split at h
  · cases h
  · split at h
    · split at h
      · rename_i hv
        injection h with h
        injection h with h1 h2
        subst h1 h2
        exact ⟨by simp, hv.2⟩
      · cases h
    · cases h
end Go.Proofs.YtappgjdnfllblaaDoor
namespace Go.Proofs.YtappgjdnfllblaaDoor
open Go.RowKit Go.IntWalk

theorem parse_one (acc d : Nat) (hd : d < 10) (h : acc * 10 + d < 18446744073709551616) (r : List UInt8) : Lib.parseUint10 acc (UInt8.ofNat (48 + d) :: r) = Lib.parseUint10 (acc * 10 + d) r := by
  have e : (UInt8.ofNat (48 + d)).toNat = 48 + d := by
    first | exact UInt8.toNat_ofNat_of_lt' (by omega) | (show (48 + d) % 256 = _; omega)
  rw [Lib.parseUint10, e, if_pos (by omega), if_neg (by omega), if_neg (by omega), show 48 + d - 48 = d by omega]
/-- A numeral's digits, parsed from the left onto what has been read. -/
theorem parse_digits : ∀ (k u acc : Nat), u ≤ k → acc * 10 ^ (Lib.decDigits u).length + u < 18446744073709551616 → ∀ r, Lib.parseUint10 acc (Lib.decDigits u ++ r) = Lib.parseUint10 (acc * 10 ^ (Lib.decDigits u).length + u) r := by
  intro k
  induction k using Nat.strongRecOn with
  | _ k ih =>
    intro u acc hu h r
    by_cases h10 : u < 10
    · rw [Lib.decDigits_one h10] at h ⊢
      simp only [List.length_singleton, Nat.pow_one] at h ⊢
      exact parse_one acc u h10 h r
    · have e : Lib.decDigits u = Lib.decDigits (u / 10) ++ [UInt8.ofNat (48 + u % 10)] := by rw [Lib.decDigits.eq_1 u, dif_neg h10]
      have el : (Lib.decDigits u).length = (Lib.decDigits (u / 10)).length + 1 := by rw [e]; simp
      rw [el, Nat.pow_succ, ← Nat.mul_assoc] at h ⊢
      generalize hX : acc * 10 ^ (Lib.decDigits (u / 10)).length = X at *
      rw [e, List.append_assoc, ih (u / 10) (by omega) (u / 10) acc (Nat.le_refl _) (by rw [hX]; omega), hX, List.singleton_append, parse_one _ _ (by omega) (by omega)]
      congr 1
      omega
theorem dec_ne (u : Nat) : Lib.decDigits u ≠ [] := by
  intro h
  have := congrArg List.length h
  rw [Lib.decDigits_length] at this
  unfold Lib.nDigits at this
  split at this <;> simp at this
theorem dec_head (u : Nat) : ∃ c r, Lib.decDigits u = c :: r ∧ 48 ≤ c.toNat ∧ c.toNat ≤ 57 := by
  induction u using Nat.strongRecOn with
  | _ u ih =>
    by_cases h10 : u < 10
    · refine ⟨UInt8.ofNat (48 + u), [], Lib.decDigits_one h10, ?_⟩
      have e : (UInt8.ofNat (48 + u)).toNat = 48 + u := by
        first | exact UInt8.toNat_ofNat_of_lt' (by omega) | (show (48 + u) % 256 = _; omega)
      omega
    · obtain ⟨c, r, h1, h2⟩ := ih (u / 10) (by omega)
      exact ⟨c, r ++ [UInt8.ofNat (48 + u % 10)], by rw [Lib.decDigits.eq_1 u, dif_neg h10, h1]; rfl, h2⟩
theorem mag_dec (u : Nat) (h : u < 18446744073709551616) : Lib.parseMag (Lib.decDigits u) = .ok u := by
  have := parse_digits u u 0 (Nat.le_refl _) (by omega) []
  rw [List.append_nil] at this
  rw [Lib.parseMag, if_neg (dec_ne u), this]
  simp [Lib.parseUint10]
/-- An int's decimal form is read as that int. -/
theorem atoi_itoa (n : Int) (h : I64 n) : Lib.atoiAll (Lib.itoa n) = .ok n := by
  have hb := h.bd
  by_cases hn : n < 0
  · have e : Lib.itoa n = 45 :: Lib.decDigits n.natAbs := by unfold Lib.itoa; rw [if_pos hn]
    rw [e, Lib.atoiAll]
    have h45 : (45 : UInt8).toNat = 45 := rfl
    simp only [h45, or_true, if_true, mag_dec n.natAbs (by omega), not_true_eq_false, false_and, if_false, true_and]
    rw [if_neg (by omega)]
    congr 1
    omega
  · have e : Lib.itoa n = Lib.decDigits n.toNat := by unfold Lib.itoa; rw [if_neg hn]
    obtain ⟨c, r, hc, h1, h2⟩ := dec_head n.toNat
    rw [e]
    have hm := mag_dec n.toNat (by omega)
    rw [hc] at hm ⊢
    rw [Lib.atoiAll]
    have h43 : ¬ (c.toNat = 43 ∨ c.toNat = 45) := by omega
    have h45 : ¬ (c.toNat = 45) := by omega
    have h46 : ¬ (c.toNat = 43) := by omega
    have hz : ¬ (9223372036854775808 ≤ n.toNat) := by omega
    have hz2 : (n.toNat : Int) = n := by omega
    simp [h46, h45, hm, hz, hz2]
theorem nDigits_pow : ∀ (k u : Nat), u < 10 ^ (k + 1) → Lib.nDigits u ≤ k + 1
  | 0, u, h => by rw [Lib.nDigits_small (by simpa using h)]; omega
  | k + 1, u, h => by
    unfold Lib.nDigits
    split
    · omega
    · have := nDigits_pow k (u / 10) (by rw [Nat.pow_succ] at h; omega)
      omega
theorem itoa_len20 (n : Int) (h : I64 n) : (Lib.itoa n).length ≤ 20 := by
  have hb := h.bd
  have h19 : (10 : Nat) ^ 19 = 10000000000000000000 := by decide
  unfold Lib.itoa
  split
  · rw [List.length_cons, Lib.decDigits_length]
    have := nDigits_pow 18 n.natAbs (by rw [h19]; omega)
    omega
  · rw [Lib.decDigits_length]
    have := nDigits_pow 18 n.toNat (by rw [h19]; omega)
    omega
theorem dec_range (u : Nat) : ∀ c ∈ Lib.decDigits u, 48 ≤ c.toNat ∧ c.toNat ≤ 57 := by
  induction u using Nat.strongRecOn with
  | _ u ih =>
    intro c hc
    rw [Lib.decDigits] at hc
    split at hc
    · rename_i h10
      rw [List.mem_singleton.1 hc]
      have e : (UInt8.ofNat (48 + u)).toNat = 48 + u := by
        first | exact UInt8.toNat_ofNat_of_lt' (by omega) | (show (48 + u) % 256 = _; omega)
      omega
    · rcases List.mem_append.1 hc with h | h
      · exact ih (u / 10) (by omega) c h
      · rw [List.mem_singleton.1 h]
        have e : (UInt8.ofNat (48 + u % 10)).toNat = 48 + u % 10 := by
          first | exact UInt8.toNat_ofNat_of_lt' (by omega) | (show (48 + u % 10) % 256 = _; omega)
        omega
theorem itoa_range (n : Int) : ∀ c ∈ Lib.itoa n, c.toNat = 45 ∨ (48 ≤ c.toNat ∧ c.toNat ≤ 57) := by
  intro c hc
  unfold Lib.itoa at hc
  split at hc
  · rcases List.mem_cons.1 hc with h | h
    · rw [h]; exact .inl rfl
    · exact .inr (dec_range _ c h)
  · exact .inr (dec_range _ c hc)
theorem index_app (c : UInt8) (r : List UInt8) : ∀ (a : List UInt8), (∀ x ∈ a, x ≠ c) → Lib.indexByte (a ++ c :: r) c = a.length
  | [], _ => by simp [Lib.indexByte]
  | x :: a, h => by
    have ih := index_app c r a (fun y hy => h y (List.mem_cons_of_mem _ hy))
    have hx : (x == c) = false := by simp [h x List.mem_cons_self]
    rw [List.cons_append, Lib.indexByte, hx, ih]
    simp
    try omega
/-- What is written is read back. -/
theorem numL_itoa (n : Int) (h : I64 n) (en : UInt8) (least : Int) (rest : List UInt8) (hen : 57 < en.toNat) (hl : least ≤ n) : numL (Lib.itoa n ++ en :: rest) en least = some (n, rest) := by
  have h20 := itoa_len20 n h
  have ht : (Lib.itoa n ++ en :: rest).take 21 = Lib.itoa n ++ en :: rest.take (20 - (Lib.itoa n).length) := by
    rw [List.take_append, List.take_of_length_le (by omega)]
    congr 1
    rw [show 21 - (Lib.itoa n).length = (20 - (Lib.itoa n).length) + 1 by omega, List.take_succ_cons]
  have hne : ∀ x ∈ Lib.itoa n, x ≠ en := by
    intro x hx e
    have := itoa_range n x hx
    rw [e] at this
    omega
  have hi := index_app en (rest.take (20 - (Lib.itoa n).length)) (Lib.itoa n) hne
  unfold numL
  rw [ht, hi, if_neg (by omega), Int.toNat_natCast]
  rw [List.take_left, atoi_itoa n h]
  simp only [true_and]
  rw [if_pos hl]
  congr 2
  rw [List.drop_append, List.drop_eq_nil_of_le (by omega)]
  simp
end Go.Proofs.YtappgjdnfllblaaDoor
namespace Go.Proofs.YtappgjdnfllblaaDoor
open Go.RowKit Go.IntWalk

theorem textL_encT (s rest : List UInt8) (h : s.length ≤ 1000000000000) : textL (encT s ++ rest) = some (s, rest) := by
  have e : encT s ++ rest = Lib.itoa s.length ++ 58 :: (s ++ 44 :: rest) := by simp [encT]
  have hn := numL_itoa (s.length : Int) ⟨by omega, by omega⟩ 58 0 (s ++ 44 :: rest) (by decide) (by omega)
  rw [textL, e, hn]
  simp [cutL]
  omega
/-- So many values, one after the other. -/
def itemsL {α : Type} (f : List UInt8 → Option (α × List UInt8)) : Nat → List UInt8 → Option (List α × List UInt8)
  | 0, l => some ([], l)
  | k + 1, l => match f l with
    | none => none
    | some (x, l1) => (itemsL f k l1).map fun r => (x :: r.1, r.2)
def listL {α : Type} (f : List UInt8 → Option (α × List UInt8)) (l : List UInt8) : Option (List α × List UInt8) :=
  match numL l 91 0 with
  | none => none
  | some (n, l1) => match itemsL f n.toNat l1 with
    | none => none
    | some (xs, l2) => (cutL l2 93).map fun r => (xs, r)
theorem itemsL_enc {α : Type} (f : List UInt8 → Option (α × List UInt8)) (enc : α → List UInt8) (rest : List UInt8) : ∀ (xs : List α), (∀ x ∈ xs, ∀ r, f (enc x ++ r) = some (x, r)) → itemsL f xs.length ((xs.map enc).flatten ++ rest) = some (xs, rest)
  | [], _ => rfl
  | x :: xs, h => by
    have ih := itemsL_enc f enc rest xs (fun y hy => h y (List.mem_cons_of_mem _ hy))
    rw [List.length_cons, List.map_cons, List.flatten_cons, List.append_assoc, itemsL, h x List.mem_cons_self]
    simp only [ih, Option.map_some]
theorem listL_enc {α : Type} (f : List UInt8 → Option (α × List UInt8)) (enc : α → List UInt8) (xs : List α) (rest : List UInt8) (hn : xs.length ≤ 1000000000000) (h : ∀ x ∈ xs, ∀ r, f (enc x ++ r) = some (x, r)) : listL f (encL (xs.map enc) ++ rest) = some (xs, rest) := by
  have e : encL (xs.map enc) ++ rest = Lib.itoa xs.length ++ 91 :: ((xs.map enc).flatten ++ 93 :: rest) := by simp [encL]
  have hnum := numL_itoa (xs.length : Int) ⟨by omega, by omega⟩ 91 0 ((xs.map enc).flatten ++ 93 :: rest) (by decide) (by omega)
  have hi := itemsL_enc f enc (93 :: rest) xs h
  rw [listL, e, hnum]
  simp only [Int.toNat_natCast, hi]
  simp [cutL]
theorem intL_enc (n : Int) (h : I64 n) (rest : List UInt8) : numL (encI n ++ rest) 59 (-9223372036854775808) = some (n, rest) := by
  rw [encI, List.append_assoc]
  exact numL_itoa n h 59 _ rest (by decide) h.1
end Go.Proofs.YtappgjdnfllblaaDoor
namespace Go.Proofs.YtappgjdnfllblaaDoor
open Go.RowKit Go.IntWalk

theorem cell1_newK (W : World) (x : Int) : ∀ (j : Nat) (u : Value), ([x].map (Value.int .i64))[j]? = some u → (W.alloc (Obj.cells #[.int .i64 x] 3)).cell? ((⟨W.heap.size, 0, none⟩ : Addr).add j) = some u := by
  intro j u hu
  match j, hu with
  | 0, hu => simp at hu; subst hu; simp [Addr.add, go_sem]
  | j + 1, hu => simp at hu
theorem numL_less {l : List UInt8} {c : UInt8} {m v : Int} {r : List UInt8} (h : numL l c m = some (v, r)) : r.length < l.length := by
  unfold numL at h
  split at h
  · cases h
  · rename_i h0
    have hi := indexByte_lt (l.take 21) c (by omega)
    split at h
    · split at h
      · injection h with h
        injection h with h1 h2
        subst h2
        have : (l.take 21).length ≤ l.length := by simp; omega
        simp only [List.length_drop]
        omega
      · cases h
    · cases h
theorem numL_bd {l : List UInt8} {c : UInt8} {m v : Int} {r : List UInt8} (h : numL l c m = some (v, r)) : I64 v := by
  unfold numL at h
  split at h
  · cases h
  · split at h
    · rename_i hat
      split at h
      · injection h with h
        injection h with h1 h2
        subst h1
        exact Lib.atoiAll_bounds hat
      · cases h
    · cases h
theorem OwnI.keptb {w w' : World} {base b : Nat} {v : Value} {l : List Int} (h : OwnI w base v l) (hg : w.grownBy w' (some b)) (hb : b < base) : OwnI w' base v l := by
  refine ⟨h.1, ?_⟩
  rcases h.2 with h0 | ⟨g, cap, cur, hv, hgb, hbk, r⟩
  · exact .inl h0
  · exact .inr ⟨g, cap, cur, hv, hgb, (hg.block g (Array.getElem?_eq_some_iff.1 hbk).1 (by intro e; injection e with e; omega)).trans hbk, r⟩
theorem OwnI.row {w : World} {base : Nat} {v : Value} {l : List Int} (h : OwnI w base v l) : ∀ k, v.ownBlock = some k → base ≤ k := by
  intro k hk
  rcases h.2 with ⟨rfl, _⟩ | ⟨g, cap, cur, rfl, hgb, _⟩
  · simp [Value.ownBlock] at hk
  · have : g = k := by simpa [Value.ownBlock] using hk
    omega
theorem grown_far {w w1 w2 : World} {r row : Option Nat} (h : w.grownBy w1 r) (h2 : w1.grownBy w2 row) (hr : ∀ k, row = some k → w.heap.size ≤ k) : w.grownBy w2 r :=
  ⟨h2.os.trans h.os, h2.tape.trans h.tape, h2.output.trans h.output, Nat.le_trans h.size h2.size, fun k hk hne => (h2.block k (Nat.lt_of_lt_of_le hk h.size) (fun e => by have := hr k e.symm; omega)).trans (h.block k hk hne)⟩
/-- A list's result. -/
def LiRes (w : World) (b : Nat) (r : Option (List Int × List UInt8)) (e : Ending) (w' : World) : Prop :=
  match r with
  | some (xs, l) => ∃ v, e = .returned v ∧ OwnI w' w.heap.size v xs ∧ Rd w' b l false ∧ w.grownBy w' (some b)
  | none => e = .returned (.slice none 0 0) ∧ Rd w' b [] true ∧ w.grownBy w' (some b)
abbrev fI : List UInt8 → Option (Int × List UInt8) := fun l => numL l 59 (-9223372036854775808)

set_option maxRecDepth 100000 in
set_option maxHeartbeats 2000000 in
theorem itemsI_any (w0 : World) (he : Env w0) (b : Nat) (hb0 : w0.heap.size ≤ b) (l : List UInt8) (bad : Bool) (w : World) (hbw : Below w0.heap.size w0 w) (h : Rd w b l bad) (hbad : bad = true → l = []) (hl : l.length ≤ 1000000000000) :
    Calls Tryd.prog 79 #[.pointer (some ⟨b, 0, none⟩), .func (.func 49) #[.pointer (some ⟨b, 0, none⟩)] #[]] w (LiRes w b (listL fI l)) := by
  have H := hid (number_any b l bad 91 0 w h hl (he.below hbw))
  cases hr : numL l 91 0 with
  | none =>
    rw [hr] at H
    have ht := hid (show listL fI l = none by rw [listL, hr])
    clear hr
    go_enter Tryd.func79, Tryd.ntmps79
    go_wp2_with fail
    refine H.out.mono ?_
    rintro e w1 ⟨rfl, h1, hg1⟩
    go_wp2_with fail
    go_loopw [5, 6] (fun v n wr => v = .slice none 0 0 ∧ n = .int .i64 0 ∧ wr = w1) (fun _ _ _ => 0)
    case atStart => exact ⟨rfl, rfl, rfl⟩
    case round =>
      obtain ⟨rfl, rfl, rfl⟩ := hrel
      go_wp2_with fail
      refine (close_any b [] true 93 _ h1).mono ?_
      rintro e w2 ⟨rfl, hg2, h3⟩
      replace h3 : Rd w2 b [] true := h3
      obtain ⟨d0, d1⟩ := blk2' h3
      go_wp2_with fail
      go_ret
      rw [ht.out]
      exact ⟨rfl, h3, grown_trans hg1 hg2⟩
  | some x =>
    obtain ⟨v, l1⟩ := x
    rw [hr] at H
    obtain ⟨hl1, hv⟩ := numL_shorter hr
    have hbd := (numL_bd hr).bd
    have hnb : bad = false := by
      cases bad with
      | false => rfl
      | true => rw [hbad rfl] at hr; simp [numL, Lib.indexByte] at hr
    subst hnb
    obtain ⟨N, rfl⟩ : ∃ n : Nat, v = n := ⟨v.toNat, by omega⟩
    have ht := hid (show listL fI l = (match itemsL fI N l1 with
      | none => none
      | some (xs, l2) => (cutL l2 93).map fun r => (xs, r)) by rw [listL, hr]; simp only [Int.toNat_natCast]; cases itemsL fI N l1 <;> rfl)
    have hbz := h.lt
    clear hr
    go_enter Tryd.func79, Tryd.ntmps79
    go_wp2_with fail
    refine H.out.mono ?_
    rintro e w1 ⟨rfl, h1, hg1⟩
    go_wp2_with fail
    go_loopw [5, 6] (fun v n wr => (∃ (k : Nat) (xs : List Int) (lc : List UInt8), n = .int .i64 k ∧ k ≤ N ∧ OwnI wr w.heap.size v xs ∧ Rd wr b lc false ∧ Hid (itemsL fI N l1 = (itemsL fI k lc).map fun r => (xs ++ r.1, r.2)) ∧ w.grownBy wr (some b) ∧ xs.length + lc.length ≤ 1000000000000) ∨ (∃ k : Nat, n = .int .i64 k ∧ k ≤ N ∧ Rd wr b [] true ∧ Hid (itemsL fI N l1 = none) ∧ w.grownBy wr (some b))) (fun _ n _ => (intOf n).toNat)
    case atStart => exact .inl ⟨N, [], l1, rfl, Nat.le_refl _, OwnI.nil _ _, h1, by simp [Hid], hg1, by simp; omega⟩
    case round =>
      clear h1 hg1 H
      rcases hrel with ⟨k, xs, lc, rfl, hkN, hown, hR, hit, hg, hlen⟩ | ⟨k, rfl, hkN, hR, hit, hg⟩
      · obtain ⟨c0, c1⟩ := blk2' hR
        by_cases hk : 0 < k
        · have hk' : (0 : Int) < k := by omega
          have hIn := hid (int_any b lc false wr hR (by omega) (he.below (hbw.grown hg hbw.size (fun j e => by injection e with e; omega))))
          obtain ⟨k', rfl⟩ : ∃ k', k = k' + 1 := ⟨k - 1, by omega⟩
          cases hf : numL lc 59 (-9223372036854775808) with
          | none =>
            rw [hf] at hIn
            have hit2 := hid (show itemsL fI N l1 = none by rw [hit.out, itemsL]; simp only [fI, hf]; rfl)
            clear hf hit
            go_wp2_with fail
            refine hIn.out.mono ?_
            rintro e w3 ⟨rfl, h3, hg3⟩
            have hown3 := hown.keptb hg3 hbz
            have hg4 := grown_trans hg hg3
            have hsz := hg4.size
            clear hIn hown hR c0 c1
            go_wp2_with (at_builtin; refine wp_appI _ rfl (.tmp 20) (.tmp 23) rfl w.heap.size _ xs rfl (hown3.alloc _) _ _ [0] rfl (cell1_newK _ _) (by simp; omega) (by simp; omega) ?_; intro v1 w5 ho1 hg5 hat1)
            have h5 : Rd w5 b [] true := Blk.grown (h3.alloc _) hg5 (fun e => by have := hown3.row b e.symm; omega)
            have hg6 := grown_far (grown_trans hg4 (grown_below ((Below.refl _ w3).alloc (Nat.le_refl _) _))) hg5 hown3.row
            go_wp2_with fail
            go_roundw
            case rel => exact .inr ⟨k', by go_num, by omega, h5, hit2, hg6⟩
            case measure => (try simp [intOf]) <;> (try omega)
          | some y =>
            obtain ⟨z, lr⟩ := y
            rw [hf] at hIn
            have hless := numL_less hf
            have hit2 := hid (show itemsL fI N l1 = (itemsL fI k' lr).map fun r => ((xs ++ [z]) ++ r.1, r.2) by
              rw [hit.out, itemsL]; simp only [fI, hf, Option.map_map]
              congr 1; funext r; simp)
            clear hf hit
            go_wp2_with fail
            refine hIn.out.mono ?_
            rintro e w3 ⟨rfl, h3, hg3⟩
            have hown3 := hown.keptb hg3 hbz
            have hg4 := grown_trans hg hg3
            have hsz := hg4.size
            clear hIn hown hR c0 c1
            go_wp2_with (at_builtin; refine wp_appI _ rfl (.tmp 20) (.tmp 23) rfl w.heap.size _ xs rfl (hown3.alloc _) _ _ [z] rfl (cell1_newK _ _) (by simp; omega) (by simp; omega) ?_; intro v1 w5 ho1 hg5 hat1)
            have h5 : Rd w5 b lr false := Blk.grown (h3.alloc _) hg5 (fun e => by have := hown3.row b e.symm; omega)
            have hg6 := grown_far (grown_trans hg4 (grown_below ((Below.refl _ w3).alloc (Nat.le_refl _) _))) hg5 hown3.row
            go_wp2_with fail
            go_roundw
            case rel => exact .inl ⟨k', xs ++ [z], lr, by go_num, by omega, ho1, h5, hit2, hg6, by simp; omega⟩
            case measure => (try simp [intOf]) <;> (try omega)
        · obtain rfl : k = 0 := by omega
          have hit2 : itemsL fI N l1 = some (xs, lc) := by rw [hit.out]; simp [itemsL]
          clear hit
          cases hc : cutL lc 93 with
          | none =>
            have ht2 := hid (show listL fI l = none by rw [ht.out, hit2]; simp [hc])
            have hcl := hid (close_any b lc false 93 wr hR)
            rw [hc] at hcl
            clear hit2 hc
            go_wp2_with fail
            refine hcl.out.mono ?_
            rintro e w3 ⟨rfl, hg2, h3⟩
            replace h3 : Rd w3 b [] true := h3
            obtain ⟨d0, d1⟩ := blk2' h3
            clear c0 c1
            go_wp2_with fail
            go_ret
            rw [ht2.out]
            exact ⟨rfl, h3, grown_trans hg hg2⟩
          | some r =>
            have ht2 := hid (show listL fI l = some (xs, r) by rw [ht.out, hit2]; simp [hc])
            have hcl := hid (close_any b lc false 93 wr hR)
            rw [hc] at hcl
            clear hit2 hc
            go_wp2_with fail
            refine hcl.out.mono ?_
            rintro e w3 ⟨rfl, hg2, h3⟩
            replace h3 : Rd w3 b r false := h3
            obtain ⟨d0, d1⟩ := blk2' h3
            clear c0 c1
            go_wp2_with fail
            go_ret
            rw [ht2.out]
            exact ⟨_, rfl, hown.keptb hg2 hbz, h3, grown_trans hg hg2⟩
      · obtain ⟨c0, c1⟩ := blk2' hR
        have ht2 := hid (show listL fI l = none by rw [ht.out, hit.out])
        by_cases hk : (0 : Int) < k
        · go_wp2_with fail
          refine (close_any b [] true 93 _ hR).mono ?_
          rintro e w3 ⟨rfl, hg2, h3⟩
          replace h3 : Rd w3 b [] true := h3
          obtain ⟨d0, d1⟩ := blk2' h3
          clear c0 c1
          go_wp2_with fail
          go_ret
          rw [ht2.out]
          exact ⟨rfl, h3, grown_trans hg hg2⟩
        · go_wp2_with fail
          refine (close_any b [] true 93 _ hR).mono ?_
          rintro e w3 ⟨rfl, hg2, h3⟩
          replace h3 : Rd w3 b [] true := h3
          obtain ⟨d0, d1⟩ := blk2' h3
          clear c0 c1
          go_wp2_with fail
          go_ret
          rw [ht2.out]
          exact ⟨rfl, h3, grown_trans hg hg2⟩
end Go.Proofs.YtappgjdnfllblaaDoor
namespace Go.Proofs.YtappgjdnfllblaaDoor
open Go.RowKit Go.IntWalk

theorem infoStr : (Tryd.prog.info? 9).map (fun i => (i.zero, i.size, i.bytes)) = some (some (.string ⟨#[]⟩), 1, 16) := by kernel_rfl
def vS (s : List UInt8) : Value := .string (bs s)
/-- v is a slice of the call's own (blocks from base on) that holds the strings. -/
def OwnS (w : World) (base : Nat) (v : Value) (l : List (List UInt8)) : Prop := w.ownsRow base 9 1 v l.length (l.map vS)
theorem OwnS.nil (w : World) (base : Nat) : OwnS w base (.slice none 0 0) [] := ⟨rfl, .inl ⟨rfl, rfl⟩⟩
theorem OwnS.slr {w : World} {base : Nat} {v : Value} {l : List (List UInt8)} (h : OwnS w base v l) (hi : ∀ x ∈ l, x.length ≤ maxLen) : ∃ A c, v = .slice A l.length c ∧ l.length ≤ c ∧ c ≤ maxLen ∧ SlR w w.heap.size A (l.map bs) := by
  rcases h.2 with ⟨hv, hn⟩ | ⟨g, cap, cur, hv, _, hb, hc, hm, _⟩
  · have : l = [] := List.eq_nil_of_length_eq_zero hn
    subst this
    exact ⟨none, 0, hv, Nat.le_refl _, Nat.zero_le _, SlR.nil⟩
  · refine ⟨some ⟨g, 0, none⟩, cap, hv, hc, hm, fun k x hx => ⟨g, 0, [.string x], rfl, (Array.getElem?_eq_some_iff.1 hb).1, rfl, fun j u hu => ?_, rfl, ?_⟩⟩
    · match j, hu with
      | 0, hu =>
        simp only [List.getElem?_cons_zero, Option.some.injEq] at hu
        subst hu
        have hh := h
        unfold OwnS at hh
        rw [hv] at hh
        rw [List.getElem?_map] at hx
        have hk : k < l.length := by
          rcases Nat.lt_or_ge k l.length with h | h
          · exact h
          · rw [List.getElem?_eq_none h] at hx; cases hx
        have := hh.cellAt k (by omega)
        rw [List.getElem?_eq_getElem hk] at hx
        simp only [Option.map_some, Option.some.injEq] at hx
        subst hx
        simpa [Rep.size, hk, vS] using this
      | j+1, hu => simp at hu
    · obtain ⟨y, hy, rfl⟩ := List.mem_map.1 (List.mem_of_getElem? hx)
      rw [bs_size]
      exact hi y hy
theorem OwnS.keep {w w' : World} {base : Nat} {v : Value} {l : List (List UInt8)} (h : OwnS w base v l) (hk : ∀ k, k < w.heap.size → w'.heap[k]? = w.heap[k]?) : OwnS w' base v l := by
  refine ⟨h.1, ?_⟩
  rcases h.2 with h0 | ⟨g, cap, cur, hv, hg, hb, r⟩
  · exact .inl h0
  · exact .inr ⟨g, cap, cur, hv, hg, (hk g (Array.getElem?_eq_some_iff.1 hb).1).trans hb, r⟩
theorem OwnS.below {w w' : World} {base : Nat} {v : Value} {l : List (List UInt8)} (h : OwnS w base v l) (hb : Below w.heap.size w w') : OwnS w' base v l := h.keep hb.block
theorem OwnS.alloc {w : World} {base : Nat} {v : Value} {l : List (List UInt8)} (h : OwnS w base v l) (o : Obj) : OwnS (w.alloc o) base v l := h.below ((Below.refl _ _).alloc (Nat.le_refl _) o)
theorem OwnS.drew {w : World} {base : Nat} {v : Value} {l : List (List UInt8)} (h : OwnS w base v l) : OwnS w.drew base v l := h
section
variable {ops : Array Oper} {rest : List Oper} {o : Oper} {a : Act} {Q : Exit → Act → World → Prop}
end
theorem cell1_newS (W : World) (x : List UInt8) : ∀ (j : Nat) (u : Value), ([x].map vS)[j]? = some u → (W.alloc (Obj.cells #[.string (bs x)] 9)).cell? ((⟨W.heap.size, 0, none⟩ : Addr).add j) = some u := by
  intro j u hu
  match j, hu with
  | 0, hu => simp at hu; subst hu; simp [Addr.add, go_sem, vS]
  | j + 1, hu => simp at hu
theorem cell1_newE (W : World) : ∀ (j : Nat) (u : Value), ([[]].map vS)[j]? = some u → (W.alloc (Obj.cells #[.string ⟨#[]⟩] 9)).cell? ((⟨W.heap.size, 0, none⟩ : Addr).add j) = some u := cell1_newS W []
theorem cutL_less {l r : List UInt8} {c : UInt8} (h : cutL l c = some r) : r.length < l.length := by
  cases l with
  | nil => simp [cutL] at h
  | cons x t =>
    simp only [cutL] at h
    split at h
    · injection h with h; subst h; simp
    · cases h
theorem textL_less {l : List UInt8} {s r : List UInt8} (h : textL l = some (s, r)) : r.length < l.length ∧ s.length ≤ l.length := by
  unfold textL at h
  split at h
  · cases h
  · rename_i n l1 hn
    have h1 := numL_less hn
    split at h
    · cases h
    · cases hc : cutL (l1.drop n.toNat) 44 with
      | none => rw [hc] at h; cases h
      | some q =>
        rw [hc] at h
        simp only [Option.map_some, Option.some.injEq, Prod.mk.injEq] at h
        obtain ⟨rfl, rfl⟩ := h
        have h2 := cutL_less hc
        simp only [List.length_drop] at h2
        simp only [List.length_take]
        omega
theorem OwnS.keptb {w w' : World} {base b : Nat} {v : Value} {l : List (List UInt8)} (h : OwnS w base v l) (hg : w.grownBy w' (some b)) (hb : b < base) : OwnS w' base v l := by
  refine ⟨h.1, ?_⟩
  rcases h.2 with h0 | ⟨g, cap, cur, hv, hgb, hbk, r⟩
  · exact .inl h0
  · exact .inr ⟨g, cap, cur, hv, hgb, (hg.block g (Array.getElem?_eq_some_iff.1 hbk).1 (by intro e; injection e with e; omega)).trans hbk, r⟩
theorem OwnS.row {w : World} {base : Nat} {v : Value} {l : List (List UInt8)} (h : OwnS w base v l) : ∀ k, v.ownBlock = some k → base ≤ k := by
  intro k hk
  rcases h.2 with ⟨rfl, _⟩ | ⟨g, cap, cur, rfl, hgb, _⟩
  · simp [Value.ownBlock] at hk
  · have : g = k := by simpa [Value.ownBlock] using hk
    omega
/-- A list's result. -/
def LsRes (w : World) (b : Nat) (r : Option (List (List UInt8) × List UInt8)) (e : Ending) (w' : World) : Prop :=
  match r with
  | some (xs, l) => ∃ v, e = .returned v ∧ OwnS w' w.heap.size v xs ∧ Rd w' b l false ∧ w.grownBy w' (some b)
  | none => e = .returned (.slice none 0 0) ∧ Rd w' b [] true ∧ w.grownBy w' (some b)

end Go.Proofs.YtappgjdnfllblaaDoor
namespace Go.Proofs.YtappgjdnfllblaaDoor
open Go.RowKit Go.IntWalk

theorem index_split : ∀ (l : List UInt8) (c : UInt8), 0 ≤ Lib.indexByte l c → l = l.take (Lib.indexByte l c).toNat ++ c :: l.drop ((Lib.indexByte l c).toNat + 1)
  | [], c, h => by simp [Lib.indexByte] at h
  | x :: l, c, h => by
    have ih := index_split l c
    have hge := Lib.indexByte_ge l c
    unfold Lib.indexByte at h ⊢
    by_cases hx : x = c
    · subst hx; simp
    · have hx' : (x == c) = false := by simp [hx]
      rw [hx'] at h ⊢
      simp only [Bool.false_eq_true, if_false] at h ⊢
      by_cases h1 : Lib.indexByte l c = -1
      · rw [h1] at h; simp at h
      · have h1' : (Lib.indexByte l c == -1) = false := by simp [h1]
        rw [h1'] at h ⊢
        simp only [Bool.false_eq_true, if_false] at h ⊢
        have e : (Lib.indexByte l c + 1).toNat = (Lib.indexByte l c).toNat + 1 := by omega
        rw [e, List.take_succ_cons, List.drop_succ_cons, List.cons_append]
        congr 1
        exact ih (by omega)
theorem numL_split {l : List UInt8} {c : UInt8} {m v : Int} {r : List UInt8} (h : numL l c m = some (v, r)) : l = Lib.itoa v ++ c :: r := by
  unfold numL at h
  split at h
  · cases h
  · rename_i h0
    have hi := indexByte_lt (l.take 21) c (by omega)
    have hs := index_split (l.take 21) c (by omega)
    generalize (Lib.indexByte (l.take 21) c).toNat = k at *
    split at h
    · split at h
      · rename_i hv
        injection h with h
        injection h with h1 h2
        subst h1 h2
        have hk : k < (l.take 21).length := by
          rcases Nat.lt_or_ge k (l.take 21).length with h | h
          · exact h
          · exfalso
            have h1 := congrArg List.length hs
            rw [List.take_of_length_le h, List.drop_eq_nil_of_le (by omega)] at h1
            simp at h1
        rw [hv.1]
        have e1 : l = l.take 21 ++ l.drop 21 := (List.take_append_drop 21 l).symm
        have hk21 : k < 21 := by have := List.length_take_le 21 l; omega
        have e2 : l.drop (k + 1) = (l.take 21).drop (k + 1) ++ l.drop 21 := by
          conv => lhs; rw [e1]
          rw [List.drop_append_of_le_length (by omega)]
        rw [e2]
        conv => lhs; rw [e1, hs]
        simp
      · cases h
    · cases h
theorem cutL_split {l r : List UInt8} {c : UInt8} (h : cutL l c = some r) : l = c :: r := by
  cases l with
  | nil => simp [cutL] at h
  | cons x t =>
    simp only [cutL] at h
    split at h
    · rename_i hx
      injection h with h; subst h; rw [hx]
    · cases h
theorem textL_split {l : List UInt8} {s r : List UInt8} (h : textL l = some (s, r)) : l = encT s ++ r := by
  unfold textL at h
  split at h
  · cases h
  · rename_i n l1 hn
    have h1 := numL_split hn
    have h0 := (numL_shorter hn).2
    split at h
    · cases h
    · rename_i hlen
      cases hc : cutL (l1.drop n.toNat) 44 with
      | none => rw [hc] at h; cases h
      | some q =>
        rw [hc] at h
        simp only [Option.map_some, Option.some.injEq, Prod.mk.injEq] at h
        obtain ⟨rfl, rfl⟩ := h
        have h2 := cutL_split hc
        have e : ((l1.take n.toNat).length : Int) = n := by rw [List.length_take]; omega
        unfold encT
        rw [e, h1]
        simp only [List.append_assoc, List.cons_append, List.nil_append]
        rw [← h2, List.take_append_drop]
theorem itemsL_split {α : Type} {f : List UInt8 → Option (α × List UInt8)} {enc : α → List UInt8} (hf : ∀ l x r, f l = some (x, r) → l = enc x ++ r) : ∀ (k : Nat) (l : List UInt8) (xs : List α) (r : List UInt8), itemsL f k l = some (xs, r) → l = (xs.map enc).flatten ++ r ∧ xs.length = k
  | 0, l, xs, r, h => by
    simp only [itemsL, Option.some.injEq, Prod.mk.injEq] at h
    obtain ⟨rfl, rfl⟩ := h
    simp
  | k + 1, l, xs, r, h => by
    rw [itemsL] at h
    cases hx : f l with
    | none => rw [hx] at h; cases h
    | some y =>
      obtain ⟨x, l1⟩ := y
      rw [hx] at h
      simp only at h
      cases hr : itemsL f k l1 with
      | none => rw [hr] at h; cases h
      | some z =>
        obtain ⟨zs, q⟩ := z
        rw [hr] at h
        simp only [Option.map_some, Option.some.injEq, Prod.mk.injEq] at h
        obtain ⟨rfl, rfl⟩ := h
        obtain ⟨e1, e2⟩ := itemsL_split hf k l1 zs q hr
        refine ⟨?_, by simp [e2]⟩
        rw [hf _ _ _ hx, e1]
        simp
theorem listL_split {α : Type} {f : List UInt8 → Option (α × List UInt8)} {enc : α → List UInt8} (hf : ∀ l x r, f l = some (x, r) → l = enc x ++ r) {l : List UInt8} {xs : List α} {r : List UInt8} (h : listL f l = some (xs, r)) : l = encL (xs.map enc) ++ r := by
  unfold listL at h
  split at h
  · cases h
  · rename_i n l1 hn
    have h0 := (numL_shorter hn).2
    have h1 := numL_split hn
    split at h
    · cases h
    · rename_i ys l2 hi
      cases hc : cutL l2 93 with
      | none => rw [hc] at h; cases h
      | some q =>
        rw [hc] at h
        simp only [Option.map_some, Option.some.injEq, Prod.mk.injEq] at h
        obtain ⟨rfl, rfl⟩ := h
        obtain ⟨e1, e2⟩ := itemsL_split hf _ _ _ _ hi
        have h2 := cutL_split hc
        unfold encL
        rw [h1, e1, h2, List.length_map, e2, Int.toNat_of_nonneg h0]
        simp
theorem itemsL_all {α : Type} {f : List UInt8 → Option (α × List UInt8)} {p : α → Prop} {N : Nat} (hf : ∀ l x r, l.length ≤ N → f l = some (x, r) → p x ∧ r.length ≤ l.length) : ∀ (k : Nat) (l : List UInt8) (xs : List α) (r : List UInt8), l.length ≤ N → itemsL f k l = some (xs, r) → (∀ x ∈ xs, p x) ∧ r.length ≤ l.length
  | 0, l, xs, r, hN, h => by
    simp only [itemsL, Option.some.injEq, Prod.mk.injEq] at h
    obtain ⟨rfl, rfl⟩ := h
    simp
  | k + 1, l, xs, r, hN, h => by
    rw [itemsL] at h
    cases hx : f l with
    | none => rw [hx] at h; cases h
    | some y =>
      obtain ⟨x, l1⟩ := y
      rw [hx] at h
      simp only at h
      cases hr : itemsL f k l1 with
      | none => rw [hr] at h; cases h
      | some z =>
        obtain ⟨zs, q⟩ := z
        rw [hr] at h
        simp only [Option.map_some, Option.some.injEq, Prod.mk.injEq] at h
        obtain ⟨rfl, rfl⟩ := h
        obtain ⟨g1, g2⟩ := hf _ _ _ hN hx
        obtain ⟨e1, e2⟩ := itemsL_all hf k l1 zs q (by omega) hr
        refine ⟨fun y hy => ?_, by omega⟩
        rcases List.mem_cons.1 hy with rfl | hy
        · exact g1
        · exact e1 y hy
theorem listL_all {α : Type} {f : List UInt8 → Option (α × List UInt8)} {p : α → Prop} {N : Nat} (hf : ∀ l x r, l.length ≤ N → f l = some (x, r) → p x ∧ r.length ≤ l.length) {l : List UInt8} {xs : List α} {r : List UInt8} (hN : l.length ≤ N) (h : listL f l = some (xs, r)) : (∀ x ∈ xs, p x) ∧ r.length ≤ l.length := by
  unfold listL at h
  split at h
  · cases h
  · rename_i n l1 hn
    have h0 := numL_less hn
    split at h
    · cases h
    · rename_i ys l2 hi
      cases hc : cutL l2 93 with
      | none => rw [hc] at h; cases h
      | some q =>
        rw [hc] at h
        simp only [Option.map_some, Option.some.injEq, Prod.mk.injEq] at h
        obtain ⟨rfl, rfl⟩ := h
        obtain ⟨e1, e2⟩ := itemsL_all hf _ _ _ _ (by omega) hi
        have h2 := cutL_less hc
        exact ⟨e1, by omega⟩
theorem listI_bd {l : List UInt8} {xs : List Int} {r : List UInt8} (h : listL fI l = some (xs, r)) : (∀ x ∈ xs, I64 x) ∧ r.length ≤ l.length :=
  listL_all (N := l.length) (fun l x r _ h => ⟨numL_bd h, (numL_shorter h).1⟩) (Nat.le_refl _) h
theorem listS_bd {l : List UInt8} {xs : List (List UInt8)} {r : List UInt8} (h : listL textL l = some (xs, r)) : (∀ x ∈ xs, x.length ≤ l.length) ∧ r.length ≤ l.length :=
  listL_all (p := fun x => x.length ≤ l.length) (N := l.length) (fun _ x r hN h => ⟨by have := (textL_less h).2; omega, by have := (textL_less h).1; omega⟩) (Nat.le_refl _) h
theorem fI_split (l : List UInt8) (x : Int) (r : List UInt8) (h : fI l = some (x, r)) : l = encI x ++ r := by
  rw [numL_split h, encI]; simp
theorem listI_len {l : List UInt8} {xs : List Int} {r : List UInt8} (h : listL fI l = some (xs, r)) : xs.length ≤ l.length := by
  have e := listL_split (enc := encI) fI_split h
  have h1 : xs.length ≤ (xs.map encI).flatten.length := by
    clear h e
    induction xs with
    | nil => simp
    | cons x xs ih =>
      rw [List.map_cons, List.flatten_cons, List.length_append, List.length_cons]
      have : 1 ≤ (encI x).length := by simp [encI]
      omega
  rw [e, encL]
  simp only [List.length_append]
  omega
theorem listS_len {l : List UInt8} {xs : List (List UInt8)} {r : List UInt8} (h : listL textL l = some (xs, r)) : xs.length ≤ l.length := by
  have e := listL_split (enc := encT) (fun l x r h => textL_split h) h
  have h1 : xs.length ≤ (xs.map encT).flatten.length := by
    clear h e
    induction xs with
    | nil => simp
    | cons x xs ih =>
      rw [List.map_cons, List.flatten_cons, List.length_append, List.length_cons]
      have : 1 ≤ (encT x).length := by simp [encT]; omega
      omega
  rw [e, encL]
  simp only [List.length_append]
  omega
end Go.Proofs.YtappgjdnfllblaaDoor
namespace Go.Proofs.YtappgjdnfllblaaDoor
open Go.RowKit Go.IntWalk

set_option maxRecDepth 100000 in
set_option maxHeartbeats 1000000 in
theorem numsR_any (w0 : World) (he : Env w0) (b : Nat) (hb0 : w0.heap.size ≤ b) (l : List UInt8) (bad : Bool) (w : World) (hbw : Below w0.heap.size w0 w) (h : Rd w b l bad) (hbad : bad = true → l = []) (hl : l.length ≤ 1000000000000) :
    Calls Tryd.prog 54 #[.pointer (some ⟨b, 0, none⟩)] w (LiRes w b (listL fI l)) := by
  have H := hid (itemsI_any w0 he b hb0 l bad w hbw h hbad hl)
  cases hr : listL fI l with
  | none =>
    rw [hr] at H
    go_enter Tryd.func54, Tryd.ntmps54
    go_wp2_with fail
    refine H.out.mono ?_
    rintro e w1 ⟨rfl, h1, h2⟩
    go_wp2_with fail
    go_ret
    exact ⟨rfl, h1, h2⟩
  | some x =>
    obtain ⟨xs, l'⟩ := x
    rw [hr] at H
    go_enter Tryd.func54, Tryd.ntmps54
    go_wp2_with fail
    refine H.out.mono ?_
    rintro e w1 ⟨v, rfl, h1, h2, h3⟩
    go_wp2_with fail
    go_ret
    exact ⟨v, rfl, h1, h2, h3⟩
end Go.Proofs.YtappgjdnfllblaaDoor
namespace Go.Proofs.YtappgjdnfllblaaDoor
open Go.RowKit Go.IntWalk

theorem int_uni (l : List UInt8) (bad : Bool) (hl : l.length ≤ 1000000000000) : ∃ (v : Int) (l' : List UInt8) (bad' : Bool), I64 v ∧ l'.length ≤ l.length ∧
    (∀ (b : Nat) (W : World), Rd W b l bad → Env W → Calls Tryd.prog 49 #[.pointer (some ⟨b, 0, none⟩)] W fun e w' => e = .returned (.int .i64 v) ∧ Rd w' b l' bad' ∧ W.grownBy w' (some b)) ∧
    ((fI l = some (v, l') ∧ bad' = bad) ∨ (fI l = none ∧ v = 0 ∧ l' = [] ∧ bad' = true)) := by
  cases hr : numL l 59 (-9223372036854775808) with
  | none =>
    refine ⟨0, [], true, by simp [I64], by simp, fun b W h he => ?_, .inr ⟨hr, rfl, rfl, rfl⟩⟩
    have := int_any b l bad W h hl he
    rw [hr] at this
    exact this
  | some x =>
    obtain ⟨v, l'⟩ := x
    refine ⟨v, l', bad, numL_bd hr, (numL_shorter hr).1, fun b W h he => ?_, .inl ⟨hr, rfl⟩⟩
    have := int_any b l bad W h hl he
    rw [hr] at this
    exact this
theorem nums_uni (l : List UInt8) (bad : Bool) (hl : l.length ≤ 1000000000000) (hbad : bad = true → l = []) : ∃ (xs : List Int) (l' : List UInt8) (bad' : Bool), (∀ x ∈ xs, I64 x) ∧ xs.length ≤ l.length ∧ l'.length ≤ l.length ∧
    (∀ (b : Nat) (w0 W : World), Rd W b l bad → Env w0 → w0.heap.size ≤ b → Below w0.heap.size w0 W → Calls Tryd.prog 54 #[.pointer (some ⟨b, 0, none⟩)] W fun e w' => ∃ A c, e = .returned (.slice A xs.length c) ∧ xs.length ≤ c ∧ c ≤ maxLen ∧ OwnI w' W.heap.size (.slice A xs.length c) xs ∧ SlR w' w'.heap.size A xs ∧ Rd w' b l' bad' ∧ W.grownBy w' (some b)) ∧
    ((listL fI l = some (xs, l') ∧ bad' = bad) ∨ (listL fI l = none ∧ xs = [] ∧ l' = [] ∧ bad' = true)) := by
  cases hr : listL fI l with
  | none =>
    refine ⟨[], [], true, by simp, by simp, by simp, fun b w0 W h he hb hB => ?_, .inr ⟨rfl, rfl, rfl, rfl⟩⟩
    have := numsR_any w0 he b hb l bad W hB h hbad hl
    rw [hr] at this
    refine this.mono ?_
    rintro e w' ⟨rfl, h1, h2⟩
    exact ⟨none, 0, rfl, by simp, by simp [maxLen], OwnI.nil _ _, SlR.nil, h1, h2⟩
  | some x =>
    obtain ⟨xs, l'⟩ := x
    have hbd := listI_bd hr
    have hb0 : bad = false := by
      cases bad with
      | false => rfl
      | true => rw [hbad rfl] at hr; simp [listL, numL, Lib.indexByte] at hr
    subst hb0
    refine ⟨xs, l', false, hbd.1, listI_len hr, hbd.2, fun b w0 W h he hb hB => ?_, .inl ⟨rfl, rfl⟩⟩
    have := numsR_any w0 he b hb l false W hB h hbad hl
    rw [hr] at this
    refine this.mono ?_
    rintro e w' ⟨v, rfl, ho, h1, h2⟩
    obtain ⟨A, c, rfl, h3, h4, h5⟩ := ho.slr hbd.1
    exact ⟨A, c, rfl, h3, h4, ho, h5, h1, h2⟩
theorem grown_cell {w w' : World} {b : Nat} (h : w.grownBy w' (some b)) (k o : Nat) (hk : k < w.heap.size) (hne : k ≠ b) : w'.cell? ⟨k, o, none⟩ = w.cell? ⟨k, o, none⟩ :=
  cell_kept (p := ⟨k, o, none⟩) (h.block k hk (by intro e; injection e with e; exact hne e))
theorem bg {w0 w w' : World} {b : Nat} (h : Below w0.heap.size w0 w) (hg : w.grownBy w' (some b)) (hb : w0.heap.size ≤ b) : Below w0.heap.size w0 w' := h.grown hg h.size (fun k e => by injection e with e; omega)
end Go.Proofs.YtappgjdnfllblaaDoor
namespace Go.Proofs.YtappgjdnfllblaaDoor
open Go.RowKit Go.IntWalk

/-- What a reader holds: the bytes left, failed or not. -/
abbrev RS := List UInt8 × Bool
def rN (s : RS) : Int × RS := match numL s.1 59 0 with
  | some (v, l) => (v, l, s.2)
  | none => (0, [], true)
def rI (s : RS) : Int × RS := match numL s.1 59 (-9223372036854775808) with
  | some (v, l) => (v, l, s.2)
  | none => (0, [], true)
def rT (s : RS) : List UInt8 × RS := match textL s.1 with
  | some (v, l) => (v, l, s.2)
  | none => ([], [], true)
/-- A failed reader has nothing left. -/
def RSok (s : RS) : Prop := s.2 = true → s.1 = []
theorem rN_ok {s : RS} (h : RSok s) : RSok (rN s).2 := by
  intro hb
  unfold rN at hb ⊢
  split at hb
  · rename_i v l hn
    have := h hb
    rw [this] at hn
    simp [numL, Lib.indexByte] at hn
  · rename_i hn
    simp [hn]
theorem rI_ok {s : RS} (h : RSok s) : RSok (rI s).2 := by
  intro hb
  unfold rI at hb ⊢
  split at hb
  · rename_i v l hn
    have := h hb
    rw [this] at hn
    simp [numL, Lib.indexByte] at hn
  · rename_i hn
    simp [hn]
theorem rT_ok {s : RS} (h : RSok s) : RSok (rT s).2 := by
  intro hb
  unfold rT at hb ⊢
  split at hb
  · rename_i v l hn
    have := h hb
    rw [this] at hn
    simp [textL, numL, Lib.indexByte] at hn
  · rename_i hn
    simp [hn]
theorem rN_le (s : RS) : (rN s).2.1.length ≤ s.1.length := by
  unfold rN
  split
  · rename_i h; exact (numL_shorter h).1
  · simp
theorem rI_le (s : RS) : (rI s).2.1.length ≤ s.1.length := by
  unfold rI
  split
  · rename_i h; exact (numL_shorter h).1
  · simp
theorem rT_le (s : RS) : (rT s).2.1.length ≤ s.1.length ∧ (rT s).1.length ≤ s.1.length := by
  unfold rT
  split
  · rename_i h; have := textL_less h; exact ⟨by simp only; omega, by simp only; omega⟩
  · simp
theorem rN_bd (s : RS) : 0 ≤ (rN s).1 ∧ I64 (rN s).1 := by
  unfold rN
  split
  · rename_i h; exact ⟨(numL_shorter h).2, numL_bd h⟩
  · simp [I64]
theorem rI_bd (s : RS) : I64 (rI s).1 := by
  unfold rI
  split
  · rename_i h; exact numL_bd h
  · simp [I64]
theorem rInt_f (s : RS) (hl : s.1.length ≤ 1000000000000) (b : Nat) (W : World) (h : Rd W b s.1 s.2) (he : Env W) :
    Calls Tryd.prog 49 #[.pointer (some ⟨b, 0, none⟩)] W fun e w' => e = .returned (.int .i64 (rI s).1) ∧ Rd w' b (rI s).2.1 (rI s).2.2 ∧ W.grownBy w' (some b) := by
  have := int_any b s.1 s.2 W h hl he
  unfold rI
  cases hr : numL s.1 59 (-9223372036854775808) with
  | none => rw [hr] at this; exact this
  | some x => obtain ⟨v, l'⟩ := x; rw [hr] at this; exact this
theorem rI_enc (v : Int) (h : I64 v) (r : List UInt8) (b : Bool) : rI (encI v ++ r, b) = (v, r, b) := by
  unfold rI
  rw [intL_enc v h r]
theorem rN_enc (v : Int) (h : I64 v) (h0 : 0 ≤ v) (r : List UInt8) (b : Bool) : rN (encI v ++ r, b) = (v, r, b) := by
  unfold rN
  have e : encI v ++ r = Lib.itoa v ++ 59 :: r := by simp [encI]
  simp only [e]
  rw [numL_itoa v h 59 0 r (by decide) h0]
theorem rT_enc (t : List UInt8) (h : t.length ≤ 1000000000000) (r : List UInt8) (b : Bool) : rT (encT t ++ r, b) = (t, r, b) := by
  unfold rT
  rw [textL_encT t r h]
/-- Three numbers. -/
abbrev P3 := Int × Int × Int
def enc3 (p : P3) : List UInt8 := encI p.1 ++ encI p.2.1 ++ encI p.2.2
def r3 (s : RS) : P3 × RS := (((rI s).1, (rI (rI s).2).1, (rI (rI (rI s).2).2).1), (rI (rI (rI s).2).2).2)
theorem r3_ok {s : RS} (h : RSok s) : RSok (r3 s).2 := rI_ok (rI_ok (rI_ok h))
theorem r3_le (s : RS) : (r3 s).2.1.length ≤ s.1.length := Nat.le_trans (rI_le _) (Nat.le_trans (rI_le _) (rI_le _))
def P3I (p : P3) : Prop := I64 p.1 ∧ I64 p.2.1 ∧ I64 p.2.2
theorem r3_bd (s : RS) : P3I (r3 s).1 := ⟨rI_bd _, rI_bd _, rI_bd _⟩
theorem r3_enc (p : P3) (h : P3I p) (r : List UInt8) (b : Bool) : r3 (enc3 p ++ r, b) = (p, r, b) := by
  obtain ⟨x, y, z⟩ := p
  obtain ⟨h1, h2, h3⟩ := h
  simp only at h1 h2 h3
  have e1 : rI (enc3 (x, y, z) ++ r, b) = (x, encI y ++ (encI z ++ r), b) := by
    unfold enc3
    rw [List.append_assoc, List.append_assoc]
    exact rI_enc x h1 _ b
  unfold r3
  rw [e1]
  simp only [rI_enc y h2, rI_enc z h3]
theorem encI_le22 (n : Int) (h : I64 n) : (encI n).length ≤ 22 := by
  have := Lib.itoa_length_le n h.1 h.2
  simp [encI]; omega
theorem enc3_le (p : P3) (h : P3I p) : (enc3 p).length ≤ 66 := by
  have := encI_le22 _ h.1; have := encI_le22 _ h.2.1; have := encI_le22 _ h.2.2
  simp only [enc3, List.length_append]; omega
/-- So many values are read. -/
def rMany {α : Type} (f : RS → α × RS) : Nat → RS → List α × RS
  | 0, s => ([], s)
  | n + 1, s => ((f s).1 :: (rMany f n (f s).2).1, (rMany f n (f s).2).2)
theorem rMany_enc {α : Type} (f : RS → α × RS) (enc : α → List UInt8) (r : List UInt8) : ∀ (l : List α), (∀ x ∈ l, ∀ r b, f (enc x ++ r, b) = (x, r, b)) → rMany f l.length ((l.map enc).flatten ++ r, false) = (l, r, false)
  | [], _ => rfl
  | x :: l, h => by
    have h1 := h x (List.mem_cons_self ..)
    have ih := rMany_enc f enc r l (fun y hy => h y (List.mem_cons_of_mem _ hy))
    have e : ((x :: l).map enc).flatten ++ r = enc x ++ ((l.map enc).flatten ++ r) := by simp
    rw [e, List.length_cons]
    unfold rMany
    rw [h1]
    simp only [ih]
theorem rMany_len {α : Type} (f : RS → α × RS) : ∀ (n : Nat) (s : RS), (rMany f n s).1.length = n
  | 0, _ => rfl
  | n + 1, s => by simp [rMany, rMany_len f n]
theorem rMany_all {α : Type} {f : RS → α × RS} {p : α → Prop} (hf : ∀ s, p (f s).1) : ∀ (n : Nat) (s : RS), ∀ x ∈ (rMany f n s).1, p x
  | 0, _, x, hx => by simp [rMany] at hx
  | n + 1, s, x, hx => by
    simp only [rMany, List.mem_cons] at hx
    rcases hx with rfl | hx
    · exact hf s
    · exact rMany_all hf n _ x hx
/-- Values are read while there is something left. -/
def rWhile {α : Type} (f : RS → α × RS) : Nat → RS → List α × RS
  | 0, s => ([], s)
  | n + 1, s => if s.1 = [] then ([], s) else ((f s).1 :: (rWhile f n (f s).2).1, (rWhile f n (f s).2).2)
theorem rWhile_nil {α : Type} (f : RS → α × RS) (n : Nat) (s : RS) (h : s.1 = []) : rWhile f n s = ([], s) := by
  cases n <;> simp [rWhile, h]
theorem rWhile_enc {α : Type} (f : RS → α × RS) (enc : α → List UInt8) (r : List UInt8) : ∀ (l : List α), (∀ x ∈ l, enc x ≠ []) → (∀ x ∈ l, ∀ r b, f (enc x ++ r, b) = (x, r, b)) → rWhile f l.length ((l.map enc).flatten ++ r, false) = (l, r, false)
  | [], _, _ => rfl
  | x :: l, hn, h => by
    have h1 := h x (List.mem_cons_self ..)
    have ih := rWhile_enc f enc r l (fun y hy => hn y (List.mem_cons_of_mem _ hy)) (fun y hy => h y (List.mem_cons_of_mem _ hy))
    have e : ((x :: l).map enc).flatten ++ r = enc x ++ ((l.map enc).flatten ++ r) := by simp
    rw [e, List.length_cons]
    unfold rWhile
    rw [if_neg (by simp [hn x (List.mem_cons_self ..)]), h1]
    simp only [ih]
theorem rWhile_len {α : Type} (f : RS → α × RS) : ∀ (n : Nat) (s : RS), (rWhile f n s).1.length ≤ n
  | 0, _ => by simp [rWhile]
  | n + 1, s => by
    unfold rWhile
    split
    · simp
    · simp [rWhile_len f n]
theorem rWhile_all {α : Type} {f : RS → α × RS} {p : α → Prop} (hf : ∀ s, p (f s).1) : ∀ (n : Nat) (s : RS), ∀ x ∈ (rWhile f n s).1, p x
  | 0, _, x, hx => by simp [rWhile] at hx
  | n + 1, s, x, hx => by
    unfold rWhile at hx
    split at hx
    · simp at hx
    · simp only [List.mem_cons] at hx
      rcases hx with rfl | hx
      · exact hf s
      · exact rWhile_all hf n _ x hx
theorem encI_ne (v : Int) : encI v ≠ [] := by simp [encI]
theorem enc3_ne (p : P3) : enc3 p ≠ [] := by simp [enc3, encI]
theorem flat3_le : ∀ (l : List P3), (∀ x ∈ l, P3I x) → ((l.map enc3).flatten).length ≤ 66 * l.length
  | [], _ => by simp
  | x :: l, h => by
    have h1 := enc3_le x (h x (List.mem_cons_self ..))
    have ih := flat3_le l (fun y hy => h y (List.mem_cons_of_mem _ hy))
    simp only [List.map_cons, List.flatten_cons, List.length_append, List.length_cons]
    omega
end Go.Proofs.YtappgjdnfllblaaDoor
namespace Go.Proofs.YtappgjdnfllblaaDoor
open Go.RowKit Go.IntWalk

/-- The fields from 'off' on open to T. -/
def OpensFs (P : Program) (off : Nat) (fs : List Field) (T : Type) [Rep T] : Prop :=
  ∀ {H : Type} {enc : TypeId × Value → H} {w : World} {base : Nat} {spare : Nat → Bool} {held : Bool} {n : Nat} {cs : List Value},
    (∀ (i : Nat) (f : Field), fs[i]? = some f → ∃ y, DataW.trod enc P w base spare held n f.type ((cs.drop f.offset).take (P.cellsOf f.type)) = some y) →
    off + Rep.size T ≤ cs.length → ∃ d : T, Rep.rep w w.heap.size ((cs.drop off).take (Rep.size T)) d
theorem opensFs_one {P : Program} {off : Nat} {f : Field} {T : Type} [Rep T] (h : Opens P f.type T) (ho : f.offset = off) : OpensFs P off [f] T := by
  intro H enc w base spare held n cs hf _
  obtain ⟨y, hy⟩ := hf 0 f rfl
  rw [ho, h.1] at hy
  exact h.2 hy
theorem opensFs_cons {P : Program} {off : Nat} {f : Field} {fs : List Field} {T S : Type} [Rep T] [Rep S] (h : Opens P f.type T) (ho : f.offset = off) (hs : OpensFs P (off + Rep.size T) fs S) : OpensFs P off (f :: fs) (T × S) := by
  intro H enc w base spare held n cs hf hl
  obtain ⟨y, hy⟩ := hf 0 f rfl
  rw [ho, h.1] at hy
  obtain ⟨d, hd⟩ := h.2 hy
  have hl' : off + (Rep.size T + Rep.size S) ≤ cs.length := hl
  obtain ⟨d2, hd2⟩ := hs (fun i g hg => hf (i + 1) g (by simpa using hg)) (by omega)
  refine ⟨(d, d2), (cs.drop off).take (Rep.size T), (cs.drop (off + Rep.size T)).take (Rep.size S), ?_, ?_, ?_, hd, hd2⟩
  · show (cs.drop off).take (Rep.size T + Rep.size S) = _
    rw [List.take_add, List.drop_drop]
  · simp; omega
  · simp; omega
theorem opens_struct {P : Program} {t : TypeId} {fs : List Field} {T : Type} [Rep T] (ht : P.underlying t = some (.struct fs.toArray)) (hc : P.cellsOf t = Rep.size T) (hf : OpensFs P 0 fs T) : Opens P t T := by
  refine ⟨hc, fun {H enc w base spare held fuel cs x} h => ?_⟩
  obtain ⟨xs, n, _, _, hl, hlen, hx⟩ := DataW.trod_struct ht h
  obtain ⟨d, hd⟩ := hf (cs := cs) (fun i f hi => by
    have := hx i f (by simpa using hi)
    have hi' : i < xs.length := by
      rw [hlen]
      have := (List.getElem?_eq_some_iff.1 hi).1
      simpa using this
    rw [List.getElem?_eq_getElem hi'] at this
    exact ⟨_, this⟩) (by omega)
  refine ⟨d, ?_⟩
  rw [List.drop_zero, List.take_of_length_le (by omega)] at hd
  exact hd
end Go.Proofs.YtappgjdnfllblaaDoor
namespace Go.Proofs.YtappgjdnfllblaaDoor
open Go.RowKit Go.IntWalk Go.ChangeShapes Go.WideShapes Go.ChangeAt Go.WideElems

theorem own : ownKnob Tryd.prog.godebug = none := by kernel_rfl
theorem laidOut : laidOutB Tryd.prog = true := by kernel_rfl
def laid5 : List (String × DataW Unit) := [("math/bits.deBruijn32tab", Rows.laid_math_bits_deBruijn32tab), ("math/bits.deBruijn64tab", Rows.laid_math_bits_deBruijn64tab), ("internal/strconv.uint64pow10", Rows.laid_internal_strconv_uint64pow10), ("strconv.ErrRange", Rows.laid_strconv_ErrRange), ("strconv.ErrSyntax", Rows.laid_strconv_ErrSyntax)]

theorem starE : ("*errors.errorString" : String) = "*" ++ "errors.errorString" := by decide
theorem rowE (u : TypeId) (h : Tryd.prog.typeName? 3 u = some "*errors.errorString") : u = 169 :=
  typeName_ptr_named (nm := "errors.errorString") (by rw [← starE]; kernel_rfl) (by kernel_rfl) (by decide) u (by rw [← starE]; exact h)
theorem env_of {W : World} (h : laidMetH Tryd.prog laid5 W) : Env W := by
  rw [MakeChecks.laidMetH_plain _ _ _ (by kernel_rfl)] at h
  have h3 := h.tail.tail
  have hs := h3.tail
  have ht := hs.tail
  refine ⟨?_, ?_, ?_⟩
  · exact Lib.tabIs_of_head (g := 3) (t := 163) (e := 147) (n := 20) (by kernel_rfl) (by kernel_rfl) Tryd.underlying163 Tryd.underlying147 (by kernel_rfl) (by kernel_rfl) h3
  · obtain ⟨a, t, h1, _⟩ := laid_sentinel ht (g := 1) (ti := 125) (te := 171) (ts := 9) (by kernel_rfl) (by kernel_rfl) Tryd.underlying125 rowE Tryd.underlying169 Tryd.underlying171 rfl rfl Tryd.underlying9 (by kernel_rfl) (by kernel_rfl)
    exact ⟨_, _, h1⟩
  · obtain ⟨a, t, h1, _⟩ := laid_sentinel hs (g := 2) (ti := 125) (te := 171) (ts := 9) (by kernel_rfl) (by kernel_rfl) Tryd.underlying125 rowE Tryd.underlying169 Tryd.underlying171 rfl rfl Tryd.underlying9 (by kernel_rfl) (by kernel_rfl)
    exact ⟨_, _, h1⟩

theorem opens_str {P : Program} {t : TypeId} (ht : P.underlying t = some .string) (hc : P.cellsOf t = 1) : Opens P t ByteArray := by
  refine ⟨hc, fun h => ?_⟩
  obtain ⟨s, rfl, _, hs⟩ := DataW.trod_string ht h
  exact ⟨s, rfl, hs⟩
set_option maxRecDepth 100000 in
theorem opInt : Opens Tryd.prog 3 Int := opens_int Tryd.underlying3 (by kernel_rfl)
set_option maxRecDepth 100000 in
theorem opStr : Opens Tryd.prog 9 ByteArray := opens_str Tryd.underlying9 (by kernel_rfl)
set_option maxRecDepth 100000 in
theorem opInts : Opens Tryd.prog 46 (List Int) := opens_list Tryd.underlying46 (by kernel_rfl) (by decide) opInt
theorem arg_str {P : Program} {t : TypeId} {H : Type} {enc : TypeId × Value → H} {W : World} {base b0 : Nat} {sp : Nat → Bool} {hd : Bool} {v : Value} {d : DataW H} {p : List MemPlace} (ht : P.underlying t = some .string)
    (hv : Value.okWide P W .any b0 t v) (h : DataW.Trod enc P W base sp hd t v d p) : ∃ s, v = .string s ∧ s.size ≤ maxLen := by
  obtain ⟨n, rfl⟩ := okWide_string ht hv
  obtain ⟨fuel, hf⟩ := h
  obtain ⟨m, hm, _, hw⟩ := DataW.trod_string ht hf
  simp only [Value.cells, List.cons.injEq, and_true, Value.string.injEq] at hm
  exact ⟨n, rfl, by rw [hm]; exact hw⟩
/-- A LAW's end: it returned true, and nothing that was there has changed. -/
theorem post_law {C : Checked} {f : FuncId} {fn : Func} {s : ChangeSpec} {tb : TypeId} (H : Type) (enc : TypeId × Value → H) (hlaid : laidOutB C.prog = true)
    (hres : fn.resultTypes = #[tb]) (hub : C.prog.underlying tb = some .bool) (hvars : s.vars = []) (hread : ∀ t ∈ fn.params.toList, C.prog.readableRec t = true ∧ t < C.prog.types.size)
    (hs : ∀ ds : List (DataW H), ds.length = fn.params.toList.length → s.fn H ds = { results := [.lit (.bool true)], args := ds })
    {W : World} {args : Array Value} {ds gs : List (DataW H)} {before : List MemPlace} (hW : DataW.Whole enc C.prog fn.params.toList s.vars false W args.toList ds gs before)
    (contract : ∀ p, DataW.TrodAll enc C.prog W 0 (fun _ => true) true fn.params.toList args.toList ds p → Calls C.prog f args W fun e W' => e = .returned (.bool true) ∧ Below W.heap.size W W') :
    Calls C.prog f args W fun e W' => ∃ v, e = .returned v ∧ s.post enc C.prog fn false true false false W args v W' := by
  have hW' := hW
  obtain ⟨p, q, hA, hV, rfl, hfz, hnd⟩ := hW
  rw [hvars] at hV
  obtain ⟨rfl, rfl⟩ := trodVars_none hV
  have hlen := trodAll_length _ _ _ _ hA
  refine (contract p hA).mono fun e W' ⟨he, hb⟩ => ⟨_, he, ?_⟩
  have hlt : ∀ x ∈ p ++ [], x.block < W.heap.size := fun x hx => hW'.lt x hx
  rw [List.append_nil] at hlt
  refine ⟨ds, [], p ++ [], [], p, [], hW', ?_, ?_, ?_, ?_, fun h => by cases h⟩
  · rw [List.append_nil, hs ds hlen, hres]
    exact ⟨[], [], ⟨1, by simp [DataW.trod, Value.cells, hub]⟩, rfl, rfl⟩
  · rw [List.append_nil, hs ds hlen]
    exact trodAll_stays hlaid _ _ _ _ hread hA (fun x hx => hb.same (hlt x hx)) (fun x hx => by simpa using hlt x hx)
  · rw [hvars, List.append_nil, hs ds hlen]; rfl
  · exact World.keptBut_mono (fun x hx => ⟨hx, .inr (.inl (by simpa using hx))⟩) (hb.frame (· ∈ p ++ []))
theorem door_met (os : Os) (args : Array Value) : laidMetH Tryd.prog laid5 ((World.doorLaid Tryd.prog 62 os).forCall (fun _ _ => 0) ⟨#[], args, []⟩).memory :=
  laidMetH_of_parts3 (fuel := 8) (laidMet_of_run' 8 (by kernel_rfl) (by kernel_rfl)) (by kernel_rfl) (by kernel_rfl)
theorem met_heap {w w' : World} (hh : w.heap = w'.heap) (h : laidMetH Tryd.prog laid5 w) : laidMetH Tryd.prog laid5 w' := h.of_heap hh
end Go.Proofs.YtappgjdnfllblaaDoor
