
/- Wire: the library's tables and sentinels stay; an int's decimal form. -/
import Derived.Test.YtbefmjodpndndaaDoorBase
import Derived.Test.YtbefmjodpndndaaDoorShelf
import Derived.Lib.ItoaLen
import Derived.Lib.ItoaMem
import Derived.Laws.IdiomStrings
set_option linter.unusedSimpArgs false
set_option linter.unusedVariables false
namespace Go.Proofs.YtbefmjodpndndaaDoor
open Go.RowKit Go.IntWalk

/-- What the library's variables hold. -/
structure Env (w : World) : Prop where
  tab : Lib.TabIs Tryd.prog w "internal/strconv.uint64pow10" .u64 Lib.pow10Tab
  syn : ∃ tp p, w.var? Tryd.prog "strconv.ErrSyntax" = some #[.iface tp p]
  rng : ∃ tp p, w.var? Tryd.prog "strconv.ErrRange" = some #[.iface tp p]
theorem var_below {P : Program} {w w' : World} {n : String} {cs : Array Value} (h : w.var? P n = some cs) (hb : Below w.heap.size w w') : w'.var? P n = some cs := by
  unfold World.var? at h ⊢
  cases hg : P.globalNamed n with
  | none => rw [hg] at h; cases h
  | some g =>
    rw [hg] at h
    simp only [Option.bind_some] at h ⊢
    have hlt : g < w.heap.size := by
      rcases Nat.lt_or_ge g w.heap.size with h1 | h1
      · exact h1
      · rw [Array.getElem?_eq_none h1] at h; cases h
    rw [hb.block g hlt]
    exact h
theorem Env.below {w w' : World} (h : Env w) (hb : Below w.heap.size w w') : Env w' :=
  ⟨var_below h.tab hb, by obtain ⟨tp, p, h⟩ := h.syn; exact ⟨tp, p, var_below h hb⟩, by obtain ⟨tp, p, h⟩ := h.rng; exact ⟨tp, p, var_below h hb⟩⟩

/-- A string of bytes. -/
def bs (l : List UInt8) : ByteArray := ⟨l.toArray⟩
theorem bs_app (a b : List UInt8) : bs a ++ bs b = bs (a ++ b) := by
  apply ByteArray.ext
  simp [bs, ByteArray.data_append]
theorem bs_one (a : List UInt8) (b : Array UInt8) : bs a ++ (⟨b⟩ : ByteArray) = bs (a ++ b.toList) := by
  apply ByteArray.ext
  simp [bs, ByteArray.data_append]
theorem bs_of (s : ByteArray) : bs s.data.toList = s := by simp [bs]
theorem bs_size (l : List UInt8) : (bs l).size = l.length := by simp [bs, ByteArray.size]
theorem ret_str {a b : ByteArray} (h : a = b) : Ending.returned (.string a) = .returned (.string b) := by rw [h]
theorem below_grow (w : World) (os : Array Obj) : Below w.heap.size w (Sort.grow w os) :=
  ⟨rfl, rfl, rfl, by simp [Sort.grow], fun k hk => by simp [Sort.grow, Array.getElem?_append, hk]⟩
theorem itoa_any (n : Int) (h : I64 n) (w : World) (he : Env w) : Calls Tryd.prog 30 #[.int .i64 n] w fun e w' => e = .returned (.string (bs (Lib.itoa n))) ∧ Below w.heap.size w w' := by
  refine (Tryd.strconv_Itoa n h.1 h.2 w he.tab).mono ?_
  rintro e w' ⟨rfl, k, os, rfl⟩
  refine ⟨rfl, ?_⟩
  exact (below_drewN (Below.refl _ _) k).trans (show Below w.heap.size (w.drewN k) _ from below_grow (w.drewN k) os)

def encI (n : Int) : List UInt8 := Lib.itoa n ++ [59]
set_option maxRecDepth 100000 in
set_option maxHeartbeats 400000 in
theorem wInt_any (n : Int) (h : I64 n) (w : World) (he : Env w) : Calls Tryd.prog 9 #[.int .i64 n] w fun e w' => e = .returned (.string (bs (encI n))) ∧ Below w.heap.size w w' := by
  go_enter Tryd.func9, Tryd.ntmps9
  go_wp2_with fail
  refine (itoa_any n h w he).mono ?_
  rintro e w' ⟨rfl, hB⟩
  have hs : (bs (Lib.itoa n)).size ≤ 21 := by rw [bs_size]; exact Lib.itoa_length_le n h.1 h.2
  go_wp2_with fail
  go_ret
  exact ⟨ret_str (by rw [bs_one]; rfl), hB⟩

def encT (l : List UInt8) : List UInt8 := Lib.itoa l.length ++ [58] ++ l ++ [44]
theorem size_list (s : ByteArray) : s.size = s.data.toList.length := by rw [Array.length_toList]; rfl
theorem encT_bytes (s : ByteArray) : bs (Lib.itoa ↑s.size) ++ ⟨#[58]⟩ ++ s ++ ⟨#[44]⟩ = bs (encT s.data.toList) := by
  rw [bs_one, show s = bs s.data.toList from (bs_of s).symm, bs_app, bs_one, bs_of, size_list]
  rfl
set_option maxRecDepth 100000 in
set_option maxHeartbeats 400000 in
theorem wText_any (s : ByteArray) (h : s.size ≤ 1000000000) (w : World) (he : Env w) : Calls Tryd.prog 53 #[.string s] w fun e w' => e = .returned (.string (bs (encT s.data.toList))) ∧ Below w.heap.size w w' := by
  have hI : I64 (s.size : Int) := ⟨by omega, by omega⟩
  go_enter Tryd.func53, Tryd.ntmps53
  go_wp2_with fail
  refine (itoa_any s.size hI w he).mono ?_
  rintro e w' ⟨rfl, hB⟩
  have hs : (bs (Lib.itoa s.size)).size ≤ 21 := by rw [bs_size]; exact Lib.itoa_length_le s.size hI.1 hI.2
  go_wp2_with fail
  go_ret
  exact ⟨ret_str (encT_bytes s), hB⟩
end Go.Proofs.YtbefmjodpndndaaDoor
