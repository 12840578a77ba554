
/- Wire: the library's tables and sentinels stay; an int's decimal form. -/
import Derived.Test.YteljfpcmpdpehaaGreatDoorBase
import Derived.Test.YteljfpcmpdpehaaGreatDoorShelf
import Derived.Lib.ItoaLen
import Derived.Lib.ItoaMem
import Derived.Laws.IdiomStrings
set_option linter.unusedSimpArgs false
set_option linter.unusedVariables false
namespace Go.Proofs.YteljfpcmpdpehaaGreatDoor
open Go.RowKit Go.IntWalk

/-- What the library's variables hold. -/
structure Env (w : World) : Prop where
  tab : Lib.TabIs Tryz.prog w "internal/strconv.uint64pow10" .u64 Lib.pow10Tab
  syn : ∃ tp p, w.var? Tryz.prog "strconv.ErrSyntax" = some #[.iface tp p]
  rng : ∃ tp p, w.var? Tryz.prog "strconv.ErrRange" = some #[.iface tp p]
theorem var_below {P : Program} {w w' : World} {n : String} {cs : Array Value} (h : w.var? P n = some cs) (hb : Below w.heap.size w w') : w'.var? P n = some cs := by
  unfold World.var? at h ⊢
  cases hg : P.globalNamed n with
  | none => rw [hg] at h; cases h
  | some g =>
    rw [hg] at h
    simp only [Option.bind_some] at h ⊢
    have hlt : g < w.heap.size := by
      rcases Nat.lt_or_ge g w.heap.size with h1 | h1
      · exact h1
      · rw [Array.getElem?_eq_none h1] at h; cases h
    rw [hb.block g hlt]
    exact h
theorem Env.below {w w' : World} (h : Env w) (hb : Below w.heap.size w w') : Env w' :=
  ⟨var_below h.tab hb, by obtain ⟨tp, p, h⟩ := h.syn; exact ⟨tp, p, var_below h hb⟩, by obtain ⟨tp, p, h⟩ := h.rng; exact ⟨tp, p, var_below h hb⟩⟩

/-- A string of bytes. -/
def bs (l : List UInt8) : ByteArray := ⟨l.toArray⟩
theorem bs_app (a b : List UInt8) : bs a ++ bs b = bs (a ++ b) := by
  apply ByteArray.ext
  simp [bs, ByteArray.data_append]
theorem bs_one (a : List UInt8) (b : Array UInt8) : bs a ++ (⟨b⟩ : ByteArray) = bs (a ++ b.toList) := by
  apply ByteArray.ext
  simp [bs, ByteArray.data_append]
theorem bs_of (s : ByteArray) : bs s.data.toList = s := by simp [bs]
theorem bs_size (l : List UInt8) : (bs l).size = l.length := by simp [bs, ByteArray.size]
theorem ret_str {a b : ByteArray} (h : a = b) : Ending.returned (.string a) = .returned (.string b) := by rw [h]
theorem below_grow (w : World) (os : Array Obj) : Below w.heap.size w (Sort.grow w os) :=
  ⟨rfl, rfl, rfl, by simp [Sort.grow], fun k hk => by simp [Sort.grow, Array.getElem?_append, hk]⟩
theorem itoa_any (n : Int) (h : I64 n) (w : World) (he : Env w) : Calls Tryz.prog 85 #[.int .i64 n] w fun e w' => e = .returned (.string (bs (Lib.itoa n))) ∧ Below w.heap.size w w' := by
  refine (Tryz.strconv_Itoa n h.1 h.2 w he.tab).mono ?_
  rintro e w' ⟨rfl, k, os, rfl⟩
  refine ⟨rfl, ?_⟩
  exact (below_drewN (Below.refl _ _) k).trans (show Below w.heap.size (w.drewN k) _ from below_grow (w.drewN k) os)

def encI (n : Int) : List UInt8 := Lib.itoa n ++ [59]
set_option maxRecDepth 100000 in
set_option maxHeartbeats 400000 in
theorem wInt_any (n : Int) (h : I64 n) (w : World) (he : Env w) : Calls Tryz.prog 51 #[.int .i64 n] w fun e w' => e = .returned (.string (bs (encI n))) ∧ Below w.heap.size w w' := by
  go_enter Tryz.func51, Tryz.ntmps51
  go_wp2_with fail
  refine (itoa_any n h w he).mono ?_
  rintro e w' ⟨rfl, hB⟩
  have hs : (bs (Lib.itoa n)).size ≤ 21 := by rw [bs_size]; exact Lib.itoa_length_le n h.1 h.2
  go_wp2_with fail
  go_ret
  exact ⟨ret_str (by rw [bs_one]; rfl), hB⟩

set_option maxRecDepth 100000 in
set_option maxHeartbeats 400000 in
theorem wNum_any (n : Int) (h : I64 n) (w : World) (he : Env w) : Calls Tryz.prog 52 #[.int .i64 n] w fun e w' => e = .returned (.string (bs (if n < 0 then [] else encI n))) ∧ Below w.heap.size w w' := by
  by_cases hn : n < 0
  · go_enter Tryz.func52, Tryz.ntmps52
    go_wp2_with fail
    go_ret
    exact ⟨ret_str (by simp [bs, hn]), Below.refl _ _⟩
  · go_enter Tryz.func52, Tryz.ntmps52
    go_wp2_with fail
    refine (wInt_any n h w he).mono ?_
    rintro e w' ⟨rfl, hB⟩
    go_wp2_with fail
    go_ret
    exact ⟨ret_str (by simp [hn]), hB⟩
def encT (l : List UInt8) : List UInt8 := Lib.itoa l.length ++ [58] ++ l ++ [44]
theorem size_list (s : ByteArray) : s.size = s.data.toList.length := by rw [Array.length_toList]; rfl
theorem encT_bytes (s : ByteArray) : bs (Lib.itoa ↑s.size) ++ ⟨#[58]⟩ ++ s ++ ⟨#[44]⟩ = bs (encT s.data.toList) := by
  rw [bs_one, show s = bs s.data.toList from (bs_of s).symm, bs_app, bs_one, bs_of, size_list]
  rfl
set_option maxRecDepth 20000 in
set_option maxHeartbeats 400000 in
theorem digits_any (k : Nat) : ∀ (n : Int) (w : World), n.natAbs ≤ k → n ≤ 0 → -9223372036854775808 ≤ n →
    Calls Tryz.prog 101 #[.int .i64 n] w fun e w' => e = .returned (.string (bs (Lib.decDigits n.natAbs))) ∧ Below w.heap.size w w' := by
  induction k using Nat.strongRecOn with | _ k ih => ?_
  intro n w h1 h2 h3
  obtain ⟨d, hd⟩ : ∃ d, d = UInt8.ofNat (48 + n.natAbs % 10) := ⟨_, rfl⟩
  have hdn : (d.toNat : Int) = 48 + (n.natAbs % 10 : Nat) := by
    rw [hd]
    have : (UInt8.ofNat (48 + n.natAbs % 10)).toNat = 48 + n.natAbs % 10 := by
      first | exact UInt8.toNat_ofNat_of_lt' (by omega) | (show (48 + n.natAbs % 10) % 256 = _; omega)
    omega
  have hw : wrap64 (48 - n.tmod 10) % 256 = (d.toNat : Int) := by
    have ht : n.tmod 10 = -((n.natAbs % 10 : Nat) : Int) := by
      obtain ⟨m, rfl⟩ : ∃ m : Nat, n = -(m : Int) := ⟨n.natAbs, by omega⟩
      rw [Int.neg_tmod]
      simp only [Int.natAbs_neg, Int.natAbs_natCast]
      rfl
    rw [ht, hdn]
    unfold wrap64
    omega
  have hconv : (convert 107 9 (.slice (some ⟨w.heap.size, 0, none⟩) 1 1)).run Tryz.prog (w.alloc (Obj.cells #[.int .u8 (d.toNat : Int)] 5)) = .ok (.string (bs [d])) (w.alloc (Obj.cells #[.int .u8 (d.toNat : Int)] 5)) := by
    have := run_convert_bytes_back (P := Tryz.prog) (w.alloc (Obj.cells #[.int .u8 (d.toNat : Int)] 5)) 107 9 5 ⟨w.heap.size, 0, none⟩ 1 [d] Tryz.underlying107 Tryz.underlying5 Tryz.underlying9 (fun j hj => by
      have : j = 0 := by simpa using hj
      subst this
      simp [Addr.add, go_sem])
    exact this
  have Hdn := hid hdn
  have Hd := hid hd
  clear hdn hd
  by_cases hn : n > -10
  · go_enter Tryz.func101, Tryz.ntmps101
    go_wp2_with fail
    go_ret
    refine ⟨ret_str ?_, (Below.refl _ _).alloc (Nat.le_refl _) _⟩
    rw [Lib.decDigits_one (by omega), Hd.out, Nat.mod_eq_of_lt (by omega)]
  · have hq : n.tdiv 10 = -((n.natAbs / 10 : Nat) : Int) := by
      obtain ⟨m, rfl⟩ : ∃ m : Nat, n = -(m : Int) := ⟨n.natAbs, by omega⟩
      rw [Int.neg_tdiv]
      simp only [Int.natAbs_neg, Int.natAbs_natCast]
      rfl
    have hq1 := hid hq
    clear hq
    go_enter Tryz.func101, Tryz.ntmps101
    go_wp2_with fail
    refine (ih (n.natAbs / 10) (by omega) (n.tdiv 10) _ (by have := hq1.out; omega) (by have := hq1.out; omega) (by have := hq1.out; omega)).mono ?_
    rw [show (n.tdiv 10).natAbs = n.natAbs / 10 by rw [hq1.out, Int.natAbs_neg, Int.natAbs_natCast]]
    rintro e w' ⟨rfl, hB⟩
    have hs : (bs (Lib.decDigits (n.natAbs / 10))).size ≤ 21 := by
      rw [bs_size]
      have h4 := Lib.itoa_length_le ((n.natAbs / 10 : Nat) : Int) (by omega) (by omega)
      rw [Lib.itoa_nonneg] at h4
      exact h4
    have hs2 : (bs [d]).size = 1 := by rw [bs_size]; rfl
    go_wp2_with fail
    go_ret
    refine ⟨ret_str ?_, ((Below.refl _ _).alloc (Nat.le_refl _) _).trans (hB.mono (by simp))⟩
    rw [bs_app, Lib.decDigits.eq_1 n.natAbs, dif_neg (by omega), Hd.out]
end Go.Proofs.YteljfpcmpdpehaaGreatDoor
