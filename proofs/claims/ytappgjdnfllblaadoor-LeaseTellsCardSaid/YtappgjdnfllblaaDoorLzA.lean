
/- slices.IndexFunc and ContainsFunc over ints, with a plain function. -/
import Derived.Test.YtappgjdnfllblaaDoorRows
import Derived.WalkKit
import Derived.WalkSpells
import Derived.WalkLawsBesides
import Derived.ProofKit
import Derived.Deep.Slices
import Derived.BigQuiet
import Derived.StillTailTactics
import Derived.Deep.DeepCutAuto
import Derived.Deep.LoopGhost
import Derived.Handy
import Derived.Deep.RegionHeld3
import Derived.Deep.RegionWith
import Derived.BigRegion
import Derived.Deep.AppendLies
import Derived.Maps.AppendAt
import Derived.Lib.SliceRun
import Derived.OrdersIn
import Derived.OwnWalkIn
import Derived.Maps.Own
import Derived.Maps.OwnSet
import Derived.Maps.Views
import Derived.Laws.ResultCell
import Derived.Laws.Rows
set_option linter.unusedSimpArgs false
set_option linter.unusedVariables false
namespace Go.Proofs.YtappgjdnfllblaaDoor
open Go.RowKit Go.ChangeShapes Go.WideShapes Go.Deep

theorem hid {p : Prop} (h : p) : Hid p := h

theorem ret_int {k : IntKind} {a b : Int} (h : a = b) : Ending.returned (.int k a) = .returned (.int k b) := by rw [h]
theorem ret_bool {a b : Bool} (h : a = b) : Ending.returned (.bool a) = .returned (.bool b) := by rw [h]

theorem ofInt_i64 (a : Nat) (ha : a < 9223372036854775808) : (BitVec.ofInt 64 (a : Int)).toNat = a := by
  rw [BitVec.ofInt_natCast, BitVec.toNat_ofNat]; exact Nat.mod_eq_of_lt (by omega)
theorem i64_and_nat (a b : Nat) (ha : a < 9223372036854775808) (hb : b < 9223372036854775808) : bits .and .i64 (a : Int) (b : Int) = ((a &&& b : Nat) : Int) := by
  have hx : a &&& b < 2 ^ 63 := Nat.and_lt_two_pow _ (by omega)
  show IntKind.i64.wrap ((BitVec.ofInt 64 (a : Int) &&& BitVec.ofInt 64 (b : Int)).toNat : Int) = _
  rw [BitVec.toNat_and, ofInt_i64 a ha, ofInt_i64 b hb, IntKind.wrap_i64]
  omega

/-! ### Words -/
def I64 (n : Int) : Prop := -9223372036854775808 ≤ n ∧ n ≤ 9223372036854775807
theorem I64.bd {n : Int} (h : I64 n) : -9223372036854775808 ≤ n ∧ n ≤ 9223372036854775807 := h
theorem I64.nat {n : Nat} (h : n ≤ 9223372036854775807) : I64 n := ⟨by omega, by omega⟩

/-- What a run of cells reads as: T's values take 'size' cells; blocks below B alone are looked at. -/
class Rep (T : Type) where
  size : Nat
  rep : World → Nat → List Value → T → Prop
  mono : ∀ {w w' : World} {B B' : Nat} {cs : List Value} {x : T}, B ≤ B' → (∀ k, k < B → w'.heap[k]? = w.heap[k]?) → rep w B cs x → rep w' B' cs x

instance : Rep Int := ⟨1, fun _ _ cs n => cs = [.int .i64 n] ∧ I64 n, fun _ _ h => h⟩
instance : Rep Bool := ⟨1, fun _ _ cs b => cs = [.bool b], fun _ _ h => h⟩

/-- The slice at A holds the list. -/
def SlR {T : Type} [Rep T] (w : World) (B : Nat) (A : Option Addr) (l : List T) : Prop :=
  ∀ (k : Nat) (x : T), l[k]? = some x → ∃ (b off : Nat) (es : List Value), A = some ⟨b, off, none⟩ ∧ b < B ∧ es.length = Rep.size T ∧
    (∀ (j : Nat) (u : Value), es[j]? = some u → w.cell? ⟨b, off + k * Rep.size T + j, none⟩ = some u) ∧ Rep.rep w B es x

section
variable {T : Type} [Rep T] {w w' : World} {B B' : Nat} {A : Option Addr} {l : List T}
theorem cell_kept {p : Addr} (h : w'.heap[p.block]? = w.heap[p.block]?) : w'.cell? p = w.cell? p := World.cell?_of_block (w := w) h
theorem SlR.mono (hB : B ≤ B') (hk : ∀ k, k < B → w'.heap[k]? = w.heap[k]?) (h : SlR w B A l) : SlR w' B' A l := by
  intro k x hx
  obtain ⟨b, off, es, hA, hb, hs, hc, hr⟩ := h k x hx
  exact ⟨b, off, es, hA, by omega, hs, fun j u hu => by rw [cell_kept (hk b hb)]; exact hc j u hu, Rep.mono hB hk hr⟩
theorem SlR.below (h : SlR w B A l) (hb : Below B w w') : SlR w' B A l := h.mono (Nat.le_refl _) hb.block
theorem SlR.more (h : SlR w B A l) (hB : B ≤ B') : SlR w B' A l := h.mono hB (fun _ _ => rfl)
theorem SlR.nil : SlR w B A ([] : List T) := fun k x hx => by simp at hx
theorem SlR.drew (h : SlR w B A l) : SlR w.drew B A l := SlR.mono (w := w) (Nat.le_refl _) (fun _ _ => rfl) h
theorem SlR.alloc (h : SlR w B A l) (hB : B ≤ w.heap.size) (o : Obj) : SlR (w.alloc o) B A l := h.mono (Nat.le_refl _) (fun k hk => Below.heap_alloc w o k (by omega))
theorem SlR.setCell (h : SlR w B A l) {p : Addr} (hB : B ≤ p.block) (u : Value) : SlR (w.setCell p u) B A l := h.mono (Nat.le_refl _) (fun k hk => Below.heap_setCell w p u k (by omega))
end

instance {T : Type} [Rep T] : Rep (List T) :=
  ⟨1, fun w B cs l => ∃ A c, cs = [.slice A l.length c] ∧ l.length ≤ c ∧ c ≤ maxLen ∧ SlR w B A l,
    fun hB hk ⟨A, c, h1, h2, h3, h4⟩ => ⟨A, c, h1, h2, h3, h4.mono hB hk⟩⟩

instance {T S : Type} [Rep T] [Rep S] : Rep (T × S) :=
  ⟨Rep.size T + Rep.size S, fun w B cs x => ∃ c1 c2, cs = c1 ++ c2 ∧ c1.length = Rep.size T ∧ c2.length = Rep.size S ∧ Rep.rep w B c1 x.1 ∧ Rep.rep w B c2 x.2,
    fun hB hk ⟨c1, c2, h1, h2, h3, h4, h5⟩ => ⟨c1, c2, h1, h2, h3, Rep.mono hB hk h4, Rep.mono hB hk h5⟩⟩

section
variable {w w' : World} {B B' : Nat} {A : Option Addr}
theorem SlR.int {l : List Int} (h : SlR w B A l) {k : Nat} (hk : k < l.length) : ∃ b off, A = some ⟨b, off, none⟩ ∧ b < B ∧ w.cell? ⟨b, off + k, none⟩ = some (.int .i64 l[k]) ∧ I64 l[k] := by
  obtain ⟨b, off, es, hA, hb, _, hc, rfl, hi⟩ := h k _ (List.getElem?_eq_getElem hk)
  exact ⟨b, off, hA, hb, by have := hc 0 _ rfl; simpa [Rep.size] using this, hi⟩
theorem SlR.int_at {b off : Nat} {l : List Int} (h : SlR w B (some ⟨b, off, none⟩) l) {k : Nat} (hk : k < l.length) : w.cell? ⟨b, off + k, none⟩ = some (.int .i64 l[k]) := by
  obtain ⟨b', off', hA, hb, hc, hi⟩ := h.int hk
  simp only [Option.some.injEq, Addr.mk.injEq] at hA
  obtain ⟨rfl, rfl, _⟩ := hA
  exact hc
theorem SlR.ints {l : List Int} (h : SlR w B A l) : ∀ x ∈ l, I64 x := by
  intro x hx
  obtain ⟨k, hk, rfl⟩ := List.getElem_of_mem hx
  exact (h.int hk).choose_spec.choose_spec.2.2.2
theorem SlR.bool {l : List Bool} (h : SlR w B A l) {k : Nat} (hk : k < l.length) : ∃ b off, A = some ⟨b, off, none⟩ ∧ b < B ∧ w.cell? ⟨b, off + k, none⟩ = some (.bool l[k]) := by
  obtain ⟨b, off, es, hA, hb, _, hc, rfl⟩ := h k _ (List.getElem?_eq_getElem hk)
  exact ⟨b, off, hA, hb, by have := hc 0 _ rfl; simpa [Rep.size] using this⟩
theorem SlR.bool_at {b off : Nat} {l : List Bool} (h : SlR w B (some ⟨b, off, none⟩) l) {k : Nat} (hk : k < l.length) : w.cell? ⟨b, off + k, none⟩ = some (.bool l[k]) := by
  obtain ⟨b', off', hA, hb, hc⟩ := h.bool hk
  simp only [Option.some.injEq, Addr.mk.injEq] at hA
  obtain ⟨rfl, rfl, _⟩ := hA
  exact hc
theorem SlR.list {T : Type} [Rep T] {l : List (List T)} (h : SlR w B A l) {k : Nat} (hk : k < l.length) :
    ∃ b off A' c', A = some ⟨b, off, none⟩ ∧ b < B ∧ w.cell? ⟨b, off + k, none⟩ = some (.slice A' l[k].length c') ∧ l[k].length ≤ c' ∧ c' ≤ maxLen ∧ SlR w B A' l[k] := by
  obtain ⟨b, off, es, hA, hb, _, hc, A', c', rfl, h1, h2, h3⟩ := h k _ (List.getElem?_eq_getElem hk)
  exact ⟨b, off, A', c', hA, hb, by have := hc 0 _ rfl; simpa [Rep.size] using this, h1, h2, h3⟩
theorem SlR.list_at {T : Type} [Rep T] {b off : Nat} {l : List (List T)} (h : SlR w B (some ⟨b, off, none⟩) l) {k : Nat} (hk : k < l.length) :
    ∃ A' c', w.cell? ⟨b, off + k, none⟩ = some (.slice A' l[k].length c') ∧ l[k].length ≤ c' ∧ c' ≤ maxLen ∧ SlR w B A' l[k] := by
  obtain ⟨b', off', A', c', hA, hb, hc⟩ := h.list hk
  simp only [Option.some.injEq, Addr.mk.injEq] at hA
  obtain ⟨rfl, rfl, _⟩ := hA
  exact ⟨A', c', hc⟩
end

theorem bcell {W w1 : World} {B : Nat} (hb : Below B W w1) : (∀ b o, b < B → w1.cell? ⟨b, o, none⟩ = W.cell? ⟨b, o, none⟩) :=
  fun b o h => hb.cell (p := ⟨b, o, none⟩) h

theorem bfrozen {W w1 : World} {B : Nat} (hb : Below B W w1) : (∀ b o, b < B → w1.frozen? ⟨b, o, none⟩ = W.frozen? ⟨b, o, none⟩) :=
  fun b o h => hb.frozen (p := ⟨b, o, none⟩) h
/-- A struct's result that lies in a cell block. -/
theorem run_make_rowN {P : Program} (t e : TypeId) (i : TypeInfo) (z : Value) (ht : P.underlying t = some (.slice e)) (hi : P.info? e = some i) (hz : i.zero = some z)
    (kl kc : IntKind) (n c : Nat) (hnc : n ≤ c) (hbytes : i.bytes * c ≤ 281474976710656) (h63 : c ≤ 9223372036854775807) (w : World) :
    (Instr.makeSlice t (.int kl (n : Int)) (.int kc (c : Int))).run P w = .ok (.slice (some ⟨w.heap.size, 0, none⟩) n c) (w.alloc (.cells (madeCells z.cells (c * i.size)) e)) := by
  have hb : (i.bytes : Int) * (c : Int) ≤ 281474976710656 := by
    have h : ((i.bytes * c : Nat) : Int) ≤ 281474976710656 := by omega
    rwa [Int.natCast_mul] at h
  have hr := run_make (P := P) w t e i z ht hi hz kl kc n c (by omega) (by omega) hb (by omega)
  simp only [Int.toNat_natCast] at hr
  exact hr

/-! ### A region that draws its order, whose operations read, or call what leaves all that was there alone -/
structure Ext (G : World → Prop) where
  w : World
  h : G w
/-- Nothing that was in w1 has changed. -/
def GB (w1 : World) : World → Prop := fun w' => Below w1.heap.size w1 w'
theorem wp_region_ext {P : Program} (G : World → Prop) {id : Nat} {Q : Exit → Act → World → Prop} {a : Act} {w : World} {l : List Oper} (hm : P.follows .mixedOrders = true) (hB : Region.lexB .any l.toArray = true) (hG : G w.drew)
    (h : wpQuiet P l.toArray (fun w' => ∃ x : Ext G, w' = x.w) (fun a' => ∀ w', G w' → Q .normal a' w') l a) : (Code.region id l.toArray true).wp P Q a w := by
  refine wp_region_quiet (C := fun w' => ∃ x : Ext G, w' = x.w) hm hB ⟨⟨_, hG⟩, rfl⟩ ?_
  have e : (fun a' => ∀ w', G w' → Q .normal a' w') = (fun a' => ∀ w', (∃ x : Ext G, w' = x.w) → Q .normal a' w') := by
    funext a'
    apply propext
    exact ⟨fun h w' ⟨x, hx⟩ => hx ▸ h x.w x.h, fun h w' hw' => h w' ⟨⟨w', hw'⟩, rfl⟩⟩
  rw [← e]
  simpa using h
theorem GB.out {w1 w' : World} (h : GB w1 w') : Below w1.heap.size w1 w' := h
instance (w1 : World) : Nonempty (Ext (GB w1)) := ⟨⟨w1, Below.refl _ _⟩⟩
theorem GB.refl (w : World) : GB w w.drew := (Below.refl _ _).drew
theorem GB.cell {w1 : World} (x : Ext (GB w1)) (b o : Nat) (h : b < w1.heap.size) : x.w.cell? ⟨b, o, none⟩ = w1.cell? ⟨b, o, none⟩ := x.h.out.cell (p := ⟨b, o, none⟩) h
theorem GB.size {w1 : World} (x : Ext (GB w1)) : w1.heap.size ≤ x.w.heap.size := x.h.out.size
/-- A callee that leaves all that was there alone. -/
theorem GB.call {P : Program} {f : FuncId} {args : Array Value} {w1 : World} {x : Ext (GB w1)} {v : Value} (h : Calls P f args x.w fun e w' => e = .returned v ∧ Below x.w.heap.size x.w w') :
    Calls P f args x.w fun e w'' => e = .returned v ∧ ∃ y : Ext (GB w1), w'' = y.w :=
  h.mono fun _ w' ⟨he, hb⟩ => ⟨he, ⟨⟨w', x.h.out.trans (hb.mono x.h.out.size)⟩, rfl⟩⟩

/-! ### A block that is known whole -/
def Blk (w : World) (g : Nat) (t : TypeId) (cs : Array Value) : Prop := w.heap[g]? = some (.cells cs t (0, 0))
section
variable {w w' : World} {g : Nat} {t : TypeId} {cs : Array Value}
theorem Blk.lt (h : Blk w g t cs) : g < w.heap.size := by
  rcases Nat.lt_or_ge g w.heap.size with hlt | hge
  · exact hlt
  · unfold Blk at h; rw [Array.getElem?_eq_none hge] at h; cases h
theorem Blk.cell (h : Blk w g t cs) (i : Nat) : w.cell? ⟨g, i, none⟩ = cs[i]? := cell_of_row w g i cs t (0, 0) h
theorem Blk.frozen (h : Blk w g t cs) (i : Nat) : w.frozen? ⟨g, i, none⟩ = false := by
  unfold Blk at h
  simp [World.frozen?, h]
theorem Blk.new (w : World) (t : TypeId) (cs : Array Value) : Blk (w.alloc (.cells cs t)) w.heap.size t cs := heap_alloc_new w _
theorem Blk.new_at {w : World} {t : TypeId} {cs : Array Value} {g : Nat} (h : g = w.heap.size) : Blk (w.alloc (.cells cs t)) g t cs := by subst h; exact Blk.new w t cs
theorem Blk.drew (h : Blk w g t cs) : Blk w.drew g t cs := h
theorem Blk.drewN (h : Blk w g t cs) (n : Nat) : Blk (w.drewN n) g t cs := h
theorem Blk.alloc (h : Blk w g t cs) (o : Obj) : Blk (w.alloc o) g t cs := (Below.heap_alloc w o g h.lt).trans h
theorem Blk.set_ (h : Blk w g t cs) (i : Nat) (u : Value) : Blk (w.setCell ⟨g, i, none⟩ u) g t (cs.setIfInBounds i u) := by
  unfold Blk at h ⊢
  simp [World.setCell, Array.getElem?_modify, h]
theorem Blk.far (h : Blk w g t cs) {p : Addr} (hp : g ≠ p.block) (u : Value) : Blk (w.setCell p u) g t cs := (Below.heap_setCell w p u g hp).trans h
theorem Blk.below {B : Nat} (h : Blk w g t cs) (hb : Below B w w') (hg : g < B) : Blk w' g t cs := (hb.block g hg).trans h
theorem Blk.grown {row : Option Nat} (h : Blk w g t cs) (hb : w.grownBy w' row) (hg : some g ≠ row) : Blk w' g t cs := (hb.block g h.lt hg).trans h
theorem Blk.ne_ {g' : Nat} {t' : TypeId} {cs' : Array Value} (h : Blk w g t cs) (h' : Blk w g' t' cs') (hne : t ≠ t') : g ≠ g' := by
  rintro rfl
  unfold Blk at h h'
  rw [h] at h'
  injection h' with h'
  injection h' with _ ht
  exact hne ht
theorem own_blk_ne {base : Nat} {e : TypeId} {size n : Nat} {v : Value} {xs : List Value} (h : w.ownsRow base e size v n xs) (hg : Blk w g t cs) (hne : e ≠ t) : v.ownBlock ≠ some g := by
  rcases h.2 with ⟨rfl, _⟩ | ⟨g', cap, cur, rfl, _, hh, _⟩
  · simp [Value.ownBlock]
  · intro he
    have : g' = g := by simpa [Value.ownBlock] using he
    subst this
    exact Blk.ne_ (t := e) hh hg hne rfl
/-- A block of bools, of ints: the slice over it. -/
theorem Blk.bools {l : List Bool} {B : Nat} (h : Blk w g t (l.map Value.bool).toArray) (hg : g < B) : SlR w B (some ⟨g, 0, none⟩) l := by
  intro k x hx
  refine ⟨g, 0, [.bool x], rfl, hg, rfl, fun j u hu => ?_, rfl⟩
  match j, hu with
  | 0, hu =>
    simp only [List.getElem?_cons_zero, Option.some.injEq] at hu
    subst hu
    rw [h.cell]; simp [Rep.size, hx]
  | j+1, hu => simp at hu
theorem Blk.ints {l : List Int} {B : Nat} (h : Blk w g t (l.map (Value.int .i64)).toArray) (hg : g < B) (hi : ∀ x ∈ l, I64 x) : SlR w B (some ⟨g, 0, none⟩) l := by
  intro k x hx
  refine ⟨g, 0, [.int .i64 x], rfl, hg, rfl, fun j u hu => ?_, rfl, hi x (List.mem_of_getElem? hx)⟩
  match j, hu with
  | 0, hu =>
    simp only [List.getElem?_cons_zero, Option.some.injEq] at hu
    subst hu
    rw [h.cell]; simp [Rep.size, hx]
  | j+1, hu => simp at hu
end

/-! ### From a reading to the words -/
/-- Whatever reads as data at type t reads as a T. -/
def Opens (P : Program) (t : TypeId) (T : Type) [Rep T] : Prop :=
  P.cellsOf t = Rep.size T ∧ ∀ {H : Type} {enc : TypeId × Value → H} {w : World} {base : Nat} {spare : Nat → Bool} {held : Bool} {fuel : Nat} {cs : List Value} {x : DataW H × List MemPlace},
    DataW.trod enc P w base spare held fuel t cs = some x → ∃ d : T, Rep.rep w w.heap.size cs d

theorem wf_I64 {n : Int} (h : (Lit.int .i64 n).wf = true) : I64 n := by
  simp [Lit.wf, IntKind.min, IntKind.max, IntKind.bits, IntKind.signed] at h
  exact ⟨by omega, by omega⟩
theorem opens_int {P : Program} {t : TypeId} (ht : P.underlying t = some (.int .i64)) (hc : P.cellsOf t = 1) : Opens P t Int := by
  refine ⟨hc, fun h => ?_⟩
  obtain ⟨n, rfl, _, hw⟩ := DataW.trod_int ht h
  exact ⟨n, rfl, wf_I64 hw⟩
theorem opens_bool {P : Program} {t : TypeId} (ht : P.underlying t = some .bool) (hc : P.cellsOf t = 1) : Opens P t Bool := by
  refine ⟨hc, fun h => ?_⟩
  obtain ⟨n, rfl, _⟩ := DataW.trod_bool ht h
  exact ⟨n, rfl⟩
theorem cell_lt {w : World} {p : Addr} {v : Value} (h : w.cell? p = some v) : p.block < w.heap.size ∧ p.spot = none := by
  unfold World.cell? at h
  split at h
  · rename_i hb
    refine ⟨(Array.getElem?_eq_some_iff.1 hb).1, ?_⟩
    split at h
    · cases h
    · rename_i hs
      simpa using hs
  · cases h
theorem opens_list {P : Program} {t e : TypeId} {T : Type} [Rep T] (ht : P.underlying t = some (.slice e)) (hc : P.cellsOf t = 1) (hpos : 0 < Rep.size T) (he : Opens P e T) : Opens P t (List T) := by
  classical
  refine ⟨hc, fun {H enc w base spare held fuel cs x} h => ?_⟩
  rcases open_slice ht h with ⟨rfl, _⟩ | ⟨a, len, cap, m, n, D, Pl, rfl, hb, hl, hm, hmm, rfl, hi⟩
  · exact ⟨[], none, 0, rfl, by simp, by simp [maxLen], SlR.nil⟩
  · have hlm : len ≤ m := by rw [hmm]; split <;> omega
    have hall : ∀ i, i < len → ∃ (d : T), ∃ es, w.cells? base (a.add (i * P.cellsOf e)) (P.cellsOf e) = some es ∧ Rep.rep w w.heap.size es d := fun i hil => by
      obtain ⟨cs', h1, h2⟩ := hi i (by omega)
      obtain ⟨d, hd⟩ := he.2 h2
      exact ⟨d, cs', h1, hd⟩
    rcases Nat.eq_zero_or_pos len with h0 | h0
    · subst h0
      exact ⟨[], some a, cap, rfl, by simp, hm, SlR.nil⟩
    obtain ⟨d0, _⟩ := hall 0 h0
    have : Inhabited T := ⟨d0⟩
    obtain ⟨f, hf⟩ := choose_lt (α := T) hall
    refine ⟨(List.range len).map f, some a, cap, by simp, by simpa using hl, hm, ?_⟩
    intro k x hx
    have hk : k < len := by
      rcases Nat.lt_or_ge k len with h | h
      · exact h
      · rw [List.getElem?_eq_none (by simpa using h)] at hx; cases hx
    rw [List.getElem?_map, List.getElem?_range hk] at hx
    simp only [Option.map_some, Option.some.injEq] at hx
    subst hx
    obtain ⟨es, h1, h2⟩ := hf k hk
    obtain ⟨_, hlen, hat⟩ := World.cells?_some h1
    rw [he.1] at hlen hat
    have hspot : ∀ (i : Nat), i < len → a.spot = none ∧ a.block < w.heap.size := by
      intro i hil
      obtain ⟨es0, h10, _⟩ := hf 0 h0
      obtain ⟨_, hlen0, hat0⟩ := World.cells?_some h10
      rw [he.1] at hlen0 hat0
      have h00 := hat0 0 hpos
      rw [List.getElem?_eq_getElem (by omega)] at h00
      have := cell_lt h00
      simp only [Nat.zero_mul, Addr.add, if_true] at this
      exact ⟨this.2, this.1⟩
    obtain ⟨hs1, hs2⟩ := hspot 0 h0
    obtain ⟨b, off, spot⟩ := a
    simp only at hs1 hs2
    subst hs1
    refine ⟨b, off, es, rfl, hs2, hlen, fun j u hu => ?_, h2⟩
    have hj : j < es.length := by
      rcases Nat.lt_or_ge j es.length with h | h
      · exact h
      · rw [List.getElem?_eq_none h] at hu; cases hu
    have := hat j (by omega)
    rw [hu] at this
    have hadd : ((⟨b, off, none⟩ : Addr).add (k * Rep.size T)).add j = ⟨b, off + k * Rep.size T + j, none⟩ := by
      unfold Addr.add
      by_cases h1 : k * Rep.size T = 0 <;> by_cases h2 : j = 0 <;> simp [h1, h2]
    rw [← hadd]
    exact this

theorem opens_pair {P : Program} {t : TypeId} {f0 f1 : Field} {T S : Type} [Rep T] [Rep S] (ht : P.underlying t = some (.struct #[f0, f1])) (hc : P.cellsOf t = Rep.size T + Rep.size S)
    (h0 : Opens P f0.type T) (h1 : Opens P f1.type S) (o0 : f0.offset = 0) (o1 : f1.offset = Rep.size T) : Opens P t (T × S) := by
  refine ⟨hc, fun {H enc w base spare held fuel cs x} h => ?_⟩
  obtain ⟨xs, n, _, _, hl, hlen, hf⟩ := DataW.trod_struct ht h
  have e0 := hf 0 f0 rfl
  have e1 := hf 1 f1 rfl
  match xs, hlen with
  | [y0, y1], _ =>
    rw [o0, h0.1] at e0
    rw [o1, h1.1] at e1
    obtain ⟨d0, r0⟩ := h0.2 e0
    obtain ⟨d1, r1⟩ := h1.2 e1
    refine ⟨(d0, d1), (cs.drop 0).take (Rep.size T), (cs.drop (Rep.size T)).take (Rep.size S), ?_, ?_, ?_, r0, r1⟩
    · have e : (cs.drop (Rep.size T)).take (Rep.size S) = cs.drop (Rep.size T) := List.take_of_length_le (by simp; omega)
      rw [List.drop_zero, e, List.take_append_drop]
    · simp; omega
    · simp; omega
theorem opens_triple {P : Program} {t : TypeId} {f0 f1 f2 : Field} {T S R : Type} [Rep T] [Rep S] [Rep R] (ht : P.underlying t = some (.struct #[f0, f1, f2])) (hc : P.cellsOf t = Rep.size T + (Rep.size S + Rep.size R))
    (h0 : Opens P f0.type T) (h1 : Opens P f1.type S) (h2 : Opens P f2.type R) (o0 : f0.offset = 0) (o1 : f1.offset = Rep.size T) (o2 : f2.offset = Rep.size T + Rep.size S) : Opens P t (T × S × R) := by
  refine ⟨hc, fun {H enc w base spare held fuel cs x} h => ?_⟩
  obtain ⟨xs, n, _, _, hl, hlen, hf⟩ := DataW.trod_struct ht h
  have e0 := hf 0 f0 rfl
  have e1 := hf 1 f1 rfl
  have e2 := hf 2 f2 rfl
  match xs, hlen with
  | [y0, y1, y2], _ =>
    rw [o0, h0.1] at e0
    rw [o1, h1.1] at e1
    rw [o2, h2.1] at e2
    obtain ⟨d0, r0⟩ := h0.2 e0
    obtain ⟨d1, r1⟩ := h1.2 e1
    obtain ⟨d2, r2⟩ := h2.2 e2
    refine ⟨(d0, d1, d2), (cs.drop 0).take (Rep.size T), (cs.drop (Rep.size T)).take (Rep.size S) ++ (cs.drop (Rep.size T + Rep.size S)).take (Rep.size R), ?_, ?_, ?_, r0, _, _, rfl, ?_, ?_, r1, r2⟩
    · have e : (cs.drop (Rep.size T + Rep.size S)).take (Rep.size R) = (cs.drop (Rep.size T)).drop (Rep.size S) := by rw [List.drop_drop]; exact List.take_of_length_le (by simp; omega)
      rw [List.drop_zero, e, List.take_append_drop, List.take_append_drop]
    · simp; omega
    · simp only [Rep.size, List.length_append, List.length_take, List.length_drop]; omega
    · simp; omega
    · simp; omega
/-- An argument of a struct's type; of another. -/
theorem arg_struct {P : Program} {t : TypeId} {fs : Array Field} {T : Type} [Rep T] {H : Type} {enc : TypeId × Value → H} {W : World} {base b0 : Nat} {sp : Nat → Bool} {hd : Bool} {v : Value} {d : DataW H} {p : List MemPlace} (ht : P.underlying t = some (.struct fs)) (ho : Opens P t T)
    (hv : Value.okWide P W .any b0 t v) (h : DataW.Trod enc P W base sp hd t v d p) : ∃ (cs : List Value) (x : T), v = .agg cs.toArray ∧ Rep.rep W W.heap.size cs x := by
  obtain ⟨cs, rfl, _⟩ := okWide_struct ht hv
  obtain ⟨fuel, hf⟩ := h
  obtain ⟨x, hx⟩ := ho.2 hf
  exact ⟨cs.toList, x, by simp, hx⟩
theorem arg_slice {P : Program} {t e : TypeId} {T : Type} [Rep T] {H : Type} {enc : TypeId × Value → H} {W : World} {base b0 : Nat} {sp : Nat → Bool} {hd : Bool} {v : Value} {d : DataW H} {p : List MemPlace} (ht : P.underlying t = some (.slice e)) (ho : Opens P t (List T))
    (hv : Value.okWide P W .any b0 t v) (h : DataW.Trod enc P W base sp hd t v d p) : ∃ (A : Option Addr) (c : Nat) (l : List T), v = .slice A l.length c ∧ l.length ≤ c ∧ c ≤ maxLen ∧ SlR W W.heap.size A l := by
  obtain ⟨a, len, cap, rfl⟩ := okWide_slice ht hv
  obtain ⟨fuel, hf⟩ := h
  obtain ⟨x, A, c, hx, h1, h2, h3⟩ := ho.2 hf
  simp only [Value.cells, List.cons.injEq, and_true] at hx
  exact ⟨A, c, x, hx, h1, h2, h3⟩
theorem arg_int {P : Program} {t : TypeId} {H : Type} {enc : TypeId × Value → H} {W : World} {base b0 : Nat} {sp : Nat → Bool} {hd : Bool} {v : Value} {d : DataW H} {p : List MemPlace} (ht : P.underlying t = some (.int .i64))
    (hv : Value.okWide P W .any b0 t v) (h : DataW.Trod enc P W base sp hd t v d p) : ∃ n, v = .int .i64 n ∧ I64 n := by
  obtain ⟨n, rfl⟩ := okWide_int ht hv
  obtain ⟨fuel, hf⟩ := h
  obtain ⟨m, hm, _, hw⟩ := DataW.trod_int ht hf
  simp only [Value.cells, List.cons.injEq, and_true, Value.int.injEq, true_and] at hm
  exact ⟨n, rfl, by rw [hm]; exact wf_I64 hw⟩
theorem arg_bool {P : Program} {t : TypeId} {W : World} {b0 : Nat} {v : Value} (ht : P.underlying t = some .bool) (hv : Value.okWide P W .any b0 t v) : ∃ b, v = .bool b := okWide_bool ht hv

/-! ### The frame of a law's proof -/
theorem trodAll_stays {H : Type} {enc : TypeId × Value → H} {P : Program} {W W' : World} {sp : Nat → Bool} (hl : laidOutB P = true) :
    ∀ (ts : List TypeId) (vs : List Value) (ds : List (DataW H)) (ps : List MemPlace), (∀ t ∈ ts, P.readableRec t = true ∧ t < P.types.size) →
      DataW.TrodAll enc P W 0 (fun _ => true) true ts vs ds ps → (∀ p ∈ ps, W.sameAt W' p) → (∀ p ∈ ps, sp p.block = true) → DataW.TrodAll enc P W' 0 sp true ts vs ds ps
  | [], [], [], _, _, h, _, _ => h
  | t :: ts, v :: vs, d :: ds, _, hr, ⟨p, q, h1, h2, e⟩, hs, hsp =>
    ⟨p, q, WideElems.Trod_stays hl (hr t (by simp)).1 (hr t (by simp)).2 h1 (fun x hx => hs x (by rw [e]; simp [hx])) (fun x hx => hsp x (by rw [e]; simp [hx])),
      trodAll_stays hl ts vs ds q (fun t' ht' => hr t' (by simp [ht'])) h2 (fun x hx => hs x (by rw [e]; simp [hx])) (fun x hx => hsp x (by rw [e]; simp [hx])), e⟩
  | [], [], _ :: _, _, _, h, _, _ => h.elim
  | [], _ :: _, _, _, _, h, _, _ => by cases h
  | _ :: _, [], _, _, _, h, _, _ => by cases h
  | _ :: _, _ :: _, [], _, _, h, _, _ => by cases h

theorem trodAll_length {H : Type} {enc : TypeId × Value → H} {P : Program} {W : World} {b : Nat} {sp : Nat → Bool} {hd : Bool} :
    ∀ (ts : List TypeId) (vs : List Value) (ds : List (DataW H)) (ps : List MemPlace), DataW.TrodAll enc P W b sp hd ts vs ds ps → ds.length = ts.length
  | [], [], [], _, _ => rfl
  | _ :: ts, _ :: vs, _ :: ds, _, ⟨_, q, _, h2, _⟩ => by simp [trodAll_length ts vs ds q h2]
  | [], [], _ :: _, _, h => h.elim
  | [], _ :: _, _, _, h => by cases h
  | _ :: _, [], _, _, h => by cases h
  | _ :: _, _ :: _, [], _, h => by cases h

/-- A LAW: whatever the arguments read as, the call returns true, and nothing that was there has changed: then the row's step holds. -/
theorem law_lifted {C : Checked} {os : Os} {f : FuncId} {fn : Func} {s : ChangeSpec} {tb : TypeId} (H : Type) (enc : TypeId × Value → H)
    (own : ownKnob C.prog.godebug = none) (started : os.Started) (noInit : C.prog.inits.idxOf? f = none) (hfn : C.prog.funcs[f]? = some fn) (hlaid : laidOutB C.prog = true)
    (hres : fn.resultTypes = #[tb]) (hub : C.prog.underlying tb = some .bool) (hvars : s.vars = []) (hread : ∀ t ∈ fn.params.toList, C.prog.readableRec t = true ∧ t < C.prog.types.size)
    (hs : ∀ ds : List (DataW H), ds.length = fn.params.toList.length → s.fn H ds = { results := [.lit (.bool true)], args := ds })
    (witness : ∃ (w : World) (tape : Tape) (i : Input), w.os = os ∧ (w.forCall tape i).Shaped C.prog ∧ i.vars = [] ∧ Input.okWide C.prog (w.forCall tape i) .any w.heap.size f i ∧
      s.pre6 enc C.prog fn [] false (w.forCall tape i).memory i.args ∧ Assume.holds {} C.prog (lone (Frame.enter C.prog f i.args .normal) [] (w.forCall tape i)))
    (contract : ∀ (W : World) (base : Nat) (args : Array Value) (ds : List (DataW H)) (p : List MemPlace),
      (∀ (j : Nat) t v, fn.params[j]? = some t → args[j]? = some v → Value.okWide C.prog W .any base t v) →
      DataW.TrodAll enc C.prog W 0 (fun _ => true) true fn.params.toList args.toList ds p →
      Calls C.prog f args W fun e W' => e = .returned (.bool true) ∧ Below W.heap.size W W') :
    ReturnsInHanded {} C os f .any (s.pre6 enc C.prog fn [] false) (s.post enc C.prog fn false true false false) := by
  refine returnsInHanded_of_change own started noInit hfn witness ?_
  intro W base args ds gs before hval hW _ _
  have hW' := hW
  obtain ⟨p, q, hA, hV, rfl, hfz, hnd⟩ := hW
  rw [hvars] at hV
  obtain ⟨rfl, rfl⟩ := trodVars_none hV
  have hlen := trodAll_length _ _ _ _ hA
  refine (contract W base args ds p hval hA).mono fun e W' ⟨he, hb⟩ => ⟨_, he, ?_⟩
  have hlt : ∀ x ∈ p ++ [], x.block < W.heap.size := fun x hx => hW'.lt x hx
  rw [List.append_nil] at hlt
  refine ⟨ds, [], p ++ [], [], p, [], hW', ?_, ?_, ?_, ?_, fun h => by cases h⟩
  · rw [List.append_nil, hs ds hlen, hres]
    exact ⟨[], [], ⟨1, by simp [DataW.trod, Value.cells, hub]⟩, rfl, rfl⟩
  · rw [List.append_nil, hs ds hlen]
    exact trodAll_stays hlaid _ _ _ _ hread hA (fun x hx => hb.same (hlt x hx)) (fun x hx => by simpa using hlt x hx)
  · rw [hvars, List.append_nil, hs ds hlen]; rfl
  · exact World.keptBut_mono (fun x hx => ⟨hx, .inr (.inl (by simpa using hx))⟩) (hb.frame (· ∈ p ++ []))

end Go.Proofs.YtappgjdnfllblaaDoor
namespace Go.Proofs.YtappgjdnfllblaaDoor
open Go.RowKit Go.IntWalk

theorem infoInt : (Tryd.prog.info? 3).map (fun i => (i.zero, i.size, i.bytes)) = some (some (.int .i64 0), 1, 8) := by kernel_rfl

/-- v is a slice of the call's own (blocks from base on) that holds the list. -/
def OwnI (w : World) (base : Nat) (v : Value) (l : List Int) : Prop := w.ownsRow base 3 1 v l.length (l.map (Value.int .i64))
theorem OwnI.nil (w : World) (base : Nat) : OwnI w base (.slice none 0 0) [] := ⟨rfl, .inl ⟨rfl, rfl⟩⟩
theorem OwnI.fresh {w : World} {base g : Nat} {l : List Int} (hb : Blk w g 3 (l.map (Value.int .i64)).toArray) (hg : base ≤ g) (hl : l.length ≤ maxLen) : OwnI w base (.slice (some ⟨g, 0, none⟩) l.length l.length) l := by
  refine ⟨by simp, .inr ⟨g, l.length, _, rfl, hg, hb, Nat.le_refl _, hl, by simp, ?_⟩⟩
  rw [List.take_of_length_le (by simp)]
theorem OwnI.slr {w : World} {base : Nat} {v : Value} {l : List Int} (h : OwnI w base v l) (hi : ∀ x ∈ l, I64 x) : ∃ A c, v = .slice A l.length c ∧ l.length ≤ c ∧ c ≤ maxLen ∧ SlR w w.heap.size A l := by
  rcases h.2 with ⟨hv, hn⟩ | ⟨g, cap, cur, hv, _, hb, hc, hm, _⟩
  · have : l = [] := List.eq_nil_of_length_eq_zero hn
    subst this
    exact ⟨none, 0, hv, Nat.le_refl _, Nat.zero_le _, SlR.nil⟩
  · refine ⟨some ⟨g, 0, none⟩, cap, hv, hc, hm, fun k x hx => ⟨g, 0, [.int .i64 x], rfl, (Array.getElem?_eq_some_iff.1 hb).1, rfl, fun j u hu => ?_, rfl, hi x (List.mem_of_getElem? hx)⟩⟩
    match j, hu with
    | 0, hu =>
      simp only [List.getElem?_cons_zero, Option.some.injEq] at hu
      subst hu
      have hh := h
      unfold OwnI at hh
      rw [hv] at hh
      have hk : k < l.length := by
        rcases Nat.lt_or_ge k l.length with h | h
        · exact h
        · rw [List.getElem?_eq_none h] at hx; cases hx
      have := hh.cellAt k (by omega)
      simpa [Rep.size, hx] using this
    | j+1, hu => simp at hu
/-- 'only blocks of the call's own may have changed'. -/
theorem OwnI.keep {w w' : World} {base : Nat} {v : Value} {l : List Int} (h : OwnI w base v l) (hk : ∀ k, k < w.heap.size → w'.heap[k]? = w.heap[k]?) : OwnI w' base v l := by
  refine ⟨h.1, ?_⟩
  rcases h.2 with h0 | ⟨g, cap, cur, hv, hg, hb, r⟩
  · exact .inl h0
  · exact .inr ⟨g, cap, cur, hv, hg, (hk g (Array.getElem?_eq_some_iff.1 hb).1).trans hb, r⟩
theorem OwnI.below {w w' : World} {base : Nat} {v : Value} {l : List Int} (h : OwnI w base v l) (hb : Below w.heap.size w w') : OwnI w' base v l := h.keep hb.block
theorem OwnI.alloc {w : World} {base : Nat} {v : Value} {l : List Int} (h : OwnI w base v l) (o : Obj) : OwnI (w.alloc o) base v l := h.below ((Below.refl _ _).alloc (Nat.le_refl _) o)
theorem OwnI.drew {w : World} {base : Nat} {v : Value} {l : List Int} (h : OwnI w base v l) : OwnI w.drew base v l := h

theorem SlR.int_cells {w : World} {B : Nat} {A : Option Addr} {l : List Int} (h : SlR w B A l) (hl : 0 < l.length) : ∃ b off, A = some ⟨b, off, none⟩ ∧ b < B ∧ ∀ (j : Nat) (u : Value), (l.map (Value.int .i64))[j]? = some u → w.cell? ((⟨b, off, none⟩ : Addr).add j) = some u := by
  obtain ⟨b, off, rfl, hb, _⟩ := h.int hl
  refine ⟨b, off, rfl, hb, fun j u hu => ?_⟩
  rw [List.getElem?_map] at hu
  cases hj : l[j]? with
  | none => rw [hj] at hu; cases hu
  | some x =>
    rw [hj] at hu
    simp only [Option.map_some, Option.some.injEq] at hu
    subst hu
    obtain ⟨hjl, rfl⟩ := List.getElem?_eq_some_iff.1 hj
    have := h.int_at hjl
    unfold Addr.add
    by_cases h0 : j = 0
    · subst h0; simpa using this
    · simpa [h0] using this

section
variable {ops : Array Oper} {rest : List Oper} {o : Oper} {a : Act} {Q : Exit → Act → World → Prop}
/-- 'append(s, x...)' for ints: s of the call's own, the cells of x known. -/
theorem wp_appI (w : World) (hgd : o.guard = none) (s x : Operand) (ho : o.op = .call { callee := .builtin .append, args := #[s, x], argTypes := #[46, 46] })
    (base : Nat) (v : Value) (l : List Int) (hs : a.eval s = v) (hown : OwnI w base v l) (ad : Addr) (c : Nat) (ys : List Int) (hx : a.eval x = .slice (some ad) ys.length c)
    (hcell : ∀ (j : Nat) (u : Value), (ys.map (Value.int .i64))[j]? = some u → w.cell? (ad.add j) = some u) (hlen : l.length + ys.length ≤ 17592186044416) (hbase : base ≤ w.heap.size)
    (h : ∀ v' w', OwnI w' base v' (l ++ ys) → w.grownBy w' v.ownBlock → (v'.ownBlock = v.ownBlock ∨ v'.ownBlock = some w.heap.size) → wpList Tryd.prog ops Q rest (a.put o.dst v') w') : wpList Tryd.prog ops Q (o :: rest) a w := by
  obtain ⟨i0, hi, hz0, hz1, hz2⟩ := info_parts infoInt
  refine wpList_append_own_at w hgd s x 46 ho base 3 i0 _ 1 8 Tryd.underlying46 hi hz0 hz1 hz2 rfl (by omega) v l.length _ hs hown ad ys.length c (ys.map (Value.int .i64)) hx (by simp) hcell (by simp [Value.oneCell']) (by unfold maxLen; omega) (by omega) hbase ?_
  intro v' w' h1 h2 _ h4
  refine h v' w' ?_ h2 h4
  unfold OwnI
  rw [List.length_append, List.map_append]
  exact h1
end
end Go.Proofs.YtappgjdnfllblaaDoor
namespace Go.Proofs.YtappgjdnfllblaaDoor
open Go.RowKit Go.ChangeShapes Go.WideShapes Go.Deep

section
variable {F : Fence} {n : Nat} {P : Program} {ops : Array Oper} {Q : Exit → Act → World → Prop} {md : Region.Mode} {S : World → Prop} {late : List Nat}

/-- None of the late ones has come up. -/
def lateFree (late : List Nat) (listed : Array Bool) : Bool := late.all fun j => !listed.getD j false
/-- All orders; behind each operation, as long as none of the late ones has come up, S. -/
def wpAnyS (F : Fence) (n : Nat) (P : Program) (md : Region.Mode) (ops : Array Oper) (Q : Exit → Act → World → Prop) (S : World → Prop) (late : List Nat) : Nat → Array Bool → Act → World → Prop
  | 0, listed, a, w => Region.ready md ops listed = [] ∧ Q .normal a w
  | fuel + 1, listed, a, w => (Region.ready md ops listed = [] → Q .normal a w) ∧
    ∀ i ∈ Region.ready md ops listed, wpOpIn F n P ops Q i (fun a' w' => (lateFree late (listed.setIfInBounds i true) = true → S w') ∧ wpAnyS F n P md ops Q S late fuel (listed.setIfInBounds i true) a' w') a w

theorem wpAnyS.any : ∀ (fuel : Nat) (listed : Array Bool) (a : Act) (w : World), wpAnyS F n P md ops Q S late fuel listed a w → wpAnyIn F n P md ops Q fuel listed a w
  | 0, _, _, _, h => h
  | fuel + 1, listed, a, w, h => ⟨h.1, fun i hi => wpOpIn_mono (fun a' w' h' => wpAnyS.any fuel _ a' w' h'.2) (h.2 i hi)⟩
theorem wpIn_region_S {id : Nat} {a : Act} {w : World} (S : World → Prop) (late : List Nat) (hm : P.follows .mixedOrders = true) (hS : S w.drew)
    (h : S w.drew → wpAnyS F n P .any ops Q S late ops.size (Array.replicate ops.size false) a w.drew) : (Code.region id ops true).wpIn F n P Q a w :=
  wpIn_region_any hm (wpAnyS.any _ _ _ _ (h hS))

/-- What is listed has its forerunners listed. -/
def ShutS (md : Region.Mode) (ops : Array Oper) (listed : Array Bool) : Prop := ∀ k o, ops[k]? = some o → listed.getD k false = true → ∀ e ∈ o.after, Region.binds md e = true → listed.getD e.on false = true
def shutB (md : Region.Mode) (ops : Array Oper) (listed : Array Bool) : Bool := (List.range ops.size).all fun k => !listed.getD k false || ((ops[k]?).map (·.after.all fun e => !Region.binds md e || listed.getD e.on false)).getD true
theorem shutB_spec {listed : Array Bool} (h : shutB md ops listed = true) : ShutS md ops listed := by
  intro k o ho hk e he hb
  simp only [shutB, List.all_eq_true, List.mem_range] at h
  have h1 := h k (Array.getElem?_eq_some_iff.1 ho).1
  simp only [ho, Option.map_some, Option.getD_some, hk, Bool.not_true, Bool.false_or] at h1
  have h2 := Array.all_eq_true_iff_forall_mem.1 h1 e he
  simpa [hb] using h2
theorem ShutS.step {listed : Array Bool} (h : ShutS md ops listed) {i : Nat} (hi : i ∈ Region.ready md ops listed) : ShutS md ops (listed.setIfInBounds i true) := by
  intro k o ho hk e he hb
  by_cases hik : k = i
  · subst hik
    obtain ⟨_, o', ho', hall⟩ := mem_ready.1 hi
    rw [ho] at ho'
    injection ho' with ho'
    subst ho'
    exact getD_set_true (hall e he hb)
  · rw [getD_set_ne false (fun e => hik e.symm)] at hk
    exact getD_set_true (h k o ho hk e he hb)
/-- i comes before j, in whatever order. -/
def ancB (md : Region.Mode) (ops : Array Oper) : Nat → Nat → Nat → Bool
  | 0, _, _ => false
  | f + 1, j, i => match ops[j]? with
    | some o => o.after.any fun e => Region.binds md e && (e.on == i || ancB md ops f e.on i)
    | none => false
theorem ancB_spec {listed : Array Bool} (hs : ShutS md ops listed) : ∀ (f j i : Nat) (o : Oper), ops[j]? = some o → (∀ e ∈ o.after, Region.binds md e = true → listed.getD e.on false = true) → ancB md ops f j i = true → listed.getD i false = true
  | 0, _, _, _, _, _, h => by simp [ancB] at h
  | f + 1, j, i, o, ho, hall, h => by
    simp only [ancB, ho] at h
    obtain ⟨e, he, hb⟩ := Array.any_eq_true'.1 h
    simp only [Bool.and_eq_true, Bool.or_eq_true, beq_iff_eq] at hb
    have hl := hall e he hb.1
    rcases hb.2 with rfl | h2
    · exact hl
    · cases ho2 : ops[e.on]? with
      | none => cases f <;> simp [ancB, ho2] at h2
      | some o2 => exact ancB_spec hs f e.on i o2 ho2 (hs _ _ ho2 hl) h2
theorem late_set {listed : Array Bool} {i : Nat} (hn : late.contains i = false) : lateFree late (listed.setIfInBounds i true) = lateFree late listed := by
  unfold lateFree
  rw [Bool.eq_iff_iff, List.all_eq_true, List.all_eq_true]
  have hne : ∀ j ∈ late, i ≠ j := fun j hj e => by subst e; simp [hj] at hn
  constructor
  · intro h j hj
    have := h j hj
    rwa [getD_set_ne false (hne j hj)] at this
  · intro h j hj
    rw [getD_set_ne false (hne j hj)]
    exact h j hj
theorem late_shut {listed : Array Bool} (hs : ShutS md ops listed) {i f : Nat} (hi : listed.getD i false = false) (hl : ∀ j, late.contains j = true → ancB md ops f j i = true) : lateFree late listed = true := by
  unfold lateFree
  rw [List.all_eq_true]
  intro j hj
  cases hc : listed.getD j false with
  | false => rfl
  | true =>
    exfalso
    have ha := hl j (by simpa using hj)
    cases ho : ops[j]? with
    | none => cases f <;> simp [ancB, ho] at ha
    | some o =>
      have := ancB_spec hs f j i o ho (hs j o ho hc) ha
      rw [hi] at this
      cases this
theorem ready_not {listed : Array Bool} {i : Nat} (hi : i ∈ Region.ready md ops listed) : listed.getD i false = false := by
  have h0 := (mem_ready.1 hi).1
  rcases Nat.lt_or_ge i listed.size with h' | h'
  · simp [h'] at h0 ⊢; exact h0
  · simp [h']
/-- In every world of S the operation yields v, and leaves the world alone. -/
def YieldsS (P : Program) (S : World → Prop) (o : Oper) (v : Value) (a : Act) : Prop := o.guard = none ∧ (∀ c, o.op ≠ .defer c) ∧ ∀ w, S w → (execOp a.eval o).run P w = .ok (.value v) w
theorem YieldsS.of_same {o : Oper} {v : Value} {a a' : Act} (hy : YieldsS P S o v a) (he : execOp a'.eval o = execOp a.eval o) : YieldsS P S o v a' := ⟨hy.1, hy.2.1, fun w hw => by rw [he]; exact hy.2.2 w hw⟩
theorem YieldsS.op (hF : ∀ f, F.fn f) {i : Nat} {o : Oper} {v : Value} {a : Act} (hi : ops[i]? = some o) (hy : YieldsS P S o v a) {K : Act → World → Prop} {w : World} (hw : S w) (h : K (a.put o.dst v) w) : wpOpIn F n P ops Q i K a w := by
  unfold wpOpIn
  simp only [hi]
  rw [if_pos (by simp [Region.wanted, hy.1])]
  unfold Oper.wpIn
  rw [Oper.semAt_plain F _ _ hy.2.1, hy.2.2 w hw]
  exact ⟨fun f _ => hF f, h⟩
theorem wpOpIn_putS (hF : ∀ f, F.fn f) {i j : Nat} {oi oj : Oper} {v : Value} (hj : ops[j]? = some oj) (hap : oi.apart ops oj = true) (hsi : ∀ cs b, oi.op ≠ .select cs b) (hsj : ∀ cs b, oj.op ≠ .select cs b) (hdj : ∀ c, oj.op ≠ .defer c)
    (hQ : ∀ c a w, Q (.panic c) (a.put oi.dst v) w → Q (.panic c) a w) {K : Act → World → Prop} {a : Act} {w : World} (hy : YieldsS P S oi v a) (h : wpOpIn F n P ops Q j K (a.put oi.dst v) w) :
    wpOpIn F n P ops Q j (fun a' w' => YieldsS P S oi v a' ∧ K (a'.put oi.dst v) w') a w := by
  obtain ⟨h1, h2, h3⟩ := Oper.apart_spec hap
  have keep : ∀ (a : Act), YieldsS P S oi v a → ∀ u, YieldsS P S oi v (a.put oj.dst u) := fun a hy u => hy.of_same (execOp_put oi hsi a oj.dst u h3)
  unfold wpOpIn at *
  simp only [hj] at *
  rw [wanted_put oj a oi.dst v h1] at h
  split
  · rename_i hw
    simp only [hw, if_true] at h
    unfold Oper.wpIn at *
    refine ⟨fun f _ => hF f, ?_⟩
    have h := h.2
    rw [Oper.semAt_plain F _ _ hdj, execOp_put oj hsj a oi.dst v h1] at h
    rw [Oper.semAt_plain F _ _ hdj]
    generalize (execOp a.eval oj).run P w = r at *
    cases r with
    | ok x w' =>
      cases x <;> simp only [Oper.uponIn] at h ⊢
      case value u => exact ⟨keep a hy u, by rw [← Act.put_comm a v u h2]; exact h⟩
      case skip => exact ⟨keep a hy _, by rw [← Act.put_comm a v undef h2]; exact h⟩
      case defer d =>
        refine ⟨keep { a with defers := d :: a.defers } (hy.of_same rfl) _, ?_⟩
        rw [← Act.put_comm _ v undef h2, ← Act.put_defers]
        exact h
      case enter f args =>
        refine ⟨h.1, CallsIn.mono h.2 fun e w'' he => ?_⟩
        cases e with
        | returned u => exact ⟨keep a hy u, by rw [← Act.put_comm a v u h2]; exact he⟩
        | panicked c => exact hQ _ _ _ he
        | outgrown => exact he
      case row row args => exact ⟨h.1, RowsIn.mono h.2 fun u w'' he => ⟨keep a hy u, by rw [← Act.put_comm a v u h2]; exact he⟩⟩
      case round l f tmps assign body =>
        refine ⟨h.1, RoundIn.mono h.2 fun e w'' he => ?_⟩
        cases e with
        | returned u => exact ⟨keep a hy u, by rw [← Act.put_comm a v u h2]; exact he⟩
        | panicked c => exact hQ _ _ _ he
        | outgrown => exact he
    | halt x w' =>
      cases x <;> simp only [Oper.uponIn] at h ⊢
      case panic u => exact hQ _ _ _ h
  · rename_i hw
    simp only [hw] at h
    exact ⟨fun f _ => hF f, keep a hy _, by rw [← Act.put_comm a v undef h2]; exact h.2⟩

theorem wpAnyS_first {i f0 : Nat} {oi : Oper} {v : Value} {pure : Bool} (hF : ∀ f, F.fn f) (hi : ops[i]? = some oi) (hsel : ∀ (j : Nat) (o : Oper) cs b, ops[j]? = some o → o.op ≠ .select cs b) (hdef : ∀ (j : Nat) (o : Oper) c, ops[j]? = some o → o.op ≠ .defer c)
    (hQ : ∀ c a w, Q (.panic c) (a.put oi.dst v) w → Q (.panic c) a w) (hni : late.contains i = false) (hl : pure = false → ∀ j, late.contains j = true → ancB md ops f0 j i = true) :
    ∀ (fuel : Nat) (listed : Array Bool) (a : Act) (w : World),
      (∀ j oj, ops[j]? = some oj → j ≠ i → listed.getD j true = false → (∀ e ∈ oj.after, Region.binds md e = true → e.on ≠ i) → oi.apart ops oj = true) →
      ShutS md ops listed → i ∈ Region.ready md ops listed → YieldsS P (fun w => pure = false → S w) oi v a → (lateFree late listed = true → S w) →
      wpAnyS F n P md ops Q S late fuel (listed.setIfInBounds i true) (a.put oi.dst v) w → wpAnyS F n P md ops Q S late (fuel + 1) listed a w := by
  intro fuel
  induction fuel with
  | zero =>
    intro listed a w _ hsh hr hy hw H
    refine ⟨fun h => (by rw [h] at hr; cases hr), fun j hj => ?_⟩
    by_cases hji : j = i
    · subst hji; exact hy.op hF hi (fun hp => hw (late_shut hsh (ready_not hr) (hl hp))) ⟨fun h => hw (by rwa [late_set hni] at h), H⟩
    · have := ready_mono hj hji
      rw [H.1] at this
      cases this
  | succ fuel ih =>
    intro listed a w hfree hsh hr hy hw H
    refine ⟨fun h => (by rw [h] at hr; cases hr), fun j hj => ?_⟩
    by_cases hji : j = i
    · subst hji; exact hy.op hF hi (fun hp => hw (late_shut hsh (ready_not hr) (hl hp))) ⟨fun h => hw (by rwa [late_set hni] at h), H⟩
    · have h1 := H.2 j (ready_mono hj hji)
      obtain ⟨hjun, oj, hoj, hall⟩ := mem_ready.1 hj
      have hnot : ∀ e ∈ oj.after, Region.binds md e = true → e.on ≠ i := fun e he hb heq => by
        have h1 := hall e he hb
        rw [heq, ready_not hr] at h1
        cases h1
      have h2 := wpOpIn_putS (i := i) hF hoj (hfree j oj hoj hji hjun hnot) (fun cs b => hsel i oi cs b hi) (fun cs b => hsel j oj cs b hoj) (fun c => hdef j oj c hoj) hQ hy h1
      have hfree' : ∀ k ok, ops[k]? = some ok → k ≠ i → (listed.setIfInBounds j true).getD k true = false →
          (∀ e ∈ ok.after, Region.binds md e = true → e.on ≠ i) → oi.apart ops ok = true := fun k ok hk hki hun hno => by
        refine hfree k ok hk hki ?_ hno
        by_cases hjk : j = k
        · subst hjk; exact hjun
        · rw [getD_set_ne true hjk] at hun; exact hun
      have hcm : (listed.setIfInBounds i true).setIfInBounds j true = (listed.setIfInBounds j true).setIfInBounds i true := Array.setIfInBounds_comm _ _ (Ne.symm hji)
      refine wpOpIn_mono (fun a' w' h3 => ?_) h2
      have hS : lateFree late (listed.setIfInBounds j true) = true → S w' := fun h => h3.2.1 (by rw [hcm, late_set hni]; exact h)
      refine ⟨hS, ih (listed.setIfInBounds j true) a' w' hfree' (hsh.step hj) (ready_mono hr (Ne.symm hji)) h3.1 hS ?_⟩
      rw [← hcm]
      exact h3.2.2
def plainB (ops : Array Oper) : Bool := ops.all fun o => match o.op with | .select .. => false | .defer .. => false | _ => true
theorem plainB_spec (h : plainB ops = true) : (∀ (j : Nat) (o : Oper) cs b, ops[j]? = some o → o.op ≠ .select cs b) ∧ ∀ (j : Nat) (o : Oper) c, ops[j]? = some o → o.op ≠ .defer c := by
  refine ⟨fun j o cs b ho heq => ?_, fun j o c ho heq => ?_⟩ <;>
  · have := Array.all_eq_true_iff_forall_mem.1 h o (Array.mem_of_getElem? ho)
    simp [heq] at this
/-- The operation may be taken first. -/
def takeB (md : Region.Mode) (ops : Array Oper) (late : List Nat) (listed : Array Bool) (pure : Bool) (i : Nat) : Bool :=
  (Region.ready md ops listed).contains i && Region.free md ops listed i && shutB md ops listed && plainB ops && !late.contains i && (pure || late.all (fun j => ancB md ops ops.size j i))
theorem wpAnyS_take_ {pure : Bool} {i : Nat} {oi : Oper} {v : Value} {fuel : Nat} {listed : Array Bool} {a : Act} {w : World} (hF : ∀ f, F.fn f) (hi : ops[i]? = some oi) (ht : takeB md ops late listed pure i = true)
    (hQ : ∀ c a (d : Tmp) v w, Q (.panic c) (a.put (some d) v) w → Q (.panic c) a w) (hy : YieldsS P (fun w => pure = false → S w) oi v a) (hw : lateFree late listed = true → S w)
    (h : wpAnyS F n P md ops Q S late fuel (listed.setIfInBounds i true) (a.put oi.dst v) w) : wpAnyS F n P md ops Q S late (fuel + 1) listed a w := by
  simp only [takeB, Bool.and_eq_true] at ht
  obtain ⟨⟨⟨⟨⟨h1, h2⟩, h3⟩, h4⟩, h6⟩, h5⟩ := ht
  obtain ⟨p1, p2⟩ := plainB_spec h4
  refine wpAnyS_first (f0 := ops.size) hF hi p1 p2 (fun c a w h => by
    cases hd : oi.dst with
    | none => rw [hd] at h; exact h
    | some d => rw [hd] at h; exact hQ c a d _ w h) (by simpa using h6) (fun hp j hj => ?_) fuel listed a w (Region.free_spec hi h2) (shutB_spec h3) (by simpa using h1) hy hw h
  rw [hp] at h5
  simp only [Bool.false_or, List.all_eq_true] at h5
  exact h5 j (by simpa using hj)
/-- A load is taken first. -/
theorem wpAnyS_take (i : Nat) {oi : Oper} {v : Value} {fuel : Nat} {listed : Array Bool} {a : Act} {w : World} (hF : ∀ f, F.fn f) (hi : ops[i]? = some oi) (ht : takeB md ops late listed false i = true)
    (hQ : ∀ c a (d : Tmp) v w, Q (.panic c) (a.put (some d) v) w → Q (.panic c) a w) (hy : YieldsS P S oi v a) (hw : S w)
    (h : wpAnyS F n P md ops Q S late fuel (listed.setIfInBounds i true) (a.put oi.dst v) w) : wpAnyS F n P md ops Q S late (fuel + 1) listed a w :=
  wpAnyS_take_ hF hi ht hQ ⟨hy.1, hy.2.1, fun w hw => hy.2.2 w (hw rfl)⟩ (fun _ => hw) h
/-- What yields its value in every world is taken first, as long as S is known. -/
theorem wpAnyS_pure (i : Nat) {oi : Oper} {v : Value} {fuel : Nat} {listed : Array Bool} {a : Act} {w : World} (hF : ∀ f, F.fn f) (hi : ops[i]? = some oi) (ht : takeB md ops late listed true i = true)
    (hQ : ∀ c a (d : Tmp) v w, Q (.panic c) (a.put (some d) v) w → Q (.panic c) a w) (hy : YieldsS P (fun _ => True) oi v a) (hw : S w)
    (h : wpAnyS F n P md ops Q S late fuel (listed.setIfInBounds i true) (a.put oi.dst v) w) : wpAnyS F n P md ops Q S late (fuel + 1) listed a w :=
  wpAnyS_take_ hF hi ht hQ ⟨hy.1, hy.2.1, fun w _ => hy.2.2 w trivial⟩ (fun _ => hw) h
/-- .. and behind the first of the late ones. -/
theorem wpAnyS_pureL (i : Nat) {oi : Oper} {v : Value} {fuel : Nat} {listed : Array Bool} {a : Act} {w : World} (hF : ∀ f, F.fn f) (hi : ops[i]? = some oi) (ht : takeB md ops late listed true i = true) (hlf : lateFree late listed = false)
    (hQ : ∀ c a (d : Tmp) v w, Q (.panic c) (a.put (some d) v) w → Q (.panic c) a w) (hy : YieldsS P (fun _ => True) oi v a)
    (h : wpAnyS F n P md ops Q S late fuel (listed.setIfInBounds i true) (a.put oi.dst v) w) : wpAnyS F n P md ops Q S late (fuel + 1) listed a w :=
  wpAnyS_take_ hF hi ht hQ ⟨hy.1, hy.2.1, fun w _ => hy.2.2 w trivial⟩ (fun h => by rw [hlf] at h; cases h) h
def AllReadyS (F : Fence) (n : Nat) (P : Program) (md : Region.Mode) (ops : Array Oper) (Q : Exit → Act → World → Prop) (S : World → Prop) (late : List Nat) (fuel : Nat) (listed : Array Bool) (a : Act) (w : World) (rs : List Nat) : Prop :=
  ∀ i ∈ rs, wpOpIn F n P ops Q i (fun a' w' => (lateFree late (listed.setIfInBounds i true) = true → S w') ∧ wpAnyS F n P md ops Q S late fuel (listed.setIfInBounds i true) a' w') a w
theorem wpAnyS_ready (rs : List Nat) {fuel : Nat} {listed : Array Bool} {a : Act} {w : World} (hr : Region.ready md ops listed = rs) (hne : rs ≠ []) (h : AllReadyS F n P md ops Q S late fuel listed a w rs) : wpAnyS F n P md ops Q S late (fuel + 1) listed a w :=
  ⟨fun h0 => absurd (hr ▸ h0) hne, hr ▸ h⟩
theorem AllReadyS.nil {fuel : Nat} {listed : Array Bool} {a : Act} {w : World} : AllReadyS F n P md ops Q S late fuel listed a w [] := fun _ h => by cases h
theorem AllReadyS.cons {fuel : Nat} {listed : Array Bool} {a : Act} {w : World} {i : Nat} {o : Oper} {rs : List Nat} (ho : ops[i]? = some o) (hg : o.guard = none)
    (h : ∀ K' : Act → World → Prop, Hid (∀ a w, S w → wpAnyS F n P md ops Q S late fuel (listed.setIfInBounds i true) a w → K' a w) → Oper.wpIn F n P o a w K' Q)
    (hs : AllReadyS F n P md ops Q S late fuel listed a w rs) : AllReadyS F n P md ops Q S late fuel listed a w (i :: rs) := fun j hj => by
  rcases List.mem_cons.1 hj with rfl | hj
  · unfold wpOpIn
    simp only [ho]
    rw [if_pos (by simp [Region.wanted, hg])]
    exact h _ (hid fun a w h1 h2 => ⟨fun _ => h1, h2⟩)
  · exact hs j hj
/-- A late one, or one that comes behind a late one: S is not asked. -/
theorem AllReadyS.consL {fuel : Nat} {listed : Array Bool} {a : Act} {w : World} {i : Nat} {o : Oper} {rs : List Nat} (ho : ops[i]? = some o) (hg : o.guard = none) (hlf : lateFree late (listed.setIfInBounds i true) = false)
    (h : ∀ K' : Act → World → Prop, Hid (∀ a w, wpAnyS F n P md ops Q S late fuel (listed.setIfInBounds i true) a w → K' a w) → Oper.wpIn F n P o a w K' Q)
    (hs : AllReadyS F n P md ops Q S late fuel listed a w rs) : AllReadyS F n P md ops Q S late fuel listed a w (i :: rs) := fun j hj => by
  rcases List.mem_cons.1 hj with rfl | hj
  · unfold wpOpIn
    simp only [ho]
    rw [if_pos (by simp [Region.wanted, hg])]
    exact h _ (hid fun a w h2 => ⟨fun h1 => (by rw [hlf] at h1; cases h1), h2⟩)
  · exact hs j hj
theorem wpAnyS_done {fuel : Nat} {listed : Array Bool} {a : Act} {w : World} (hr : Region.ready md ops listed = []) (h : Q .normal a w) : wpAnyS F n P md ops Q S late fuel listed a w := by
  cases fuel with
  | zero => exact ⟨hr, h⟩
  | succ _ => exact ⟨fun _ => h, by rw [hr]; simp⟩
end
theorem uponIn_of_value {F : Fence} {n : Nat} {P : Program} {o : Oper} {a : Act} {w w' : World} {v : Value} {K : Act → World → Prop} {Q : Exit → Act → World → Prop} (hF : ∀ f, F.fn f) (hd : ∀ c, o.op ≠ .defer c) (hr : (execOp a.eval o).run P w = .ok (.value v) w') (h : K (a.put o.dst v) w') : o.wpIn F n P a w K Q := by
  unfold Oper.wpIn
  rw [Oper.semAt_plain F _ _ hd, hr]
  exact ⟨fun f _ => hF f, h⟩
/-- A call of a Go function that comes up. -/
theorem callS {n : Nat} {P : Program} {o : Oper} {a : Act} {w : World} {K : Act → World → Prop} {Q : Exit → Act → World → Prop} {f : FuncId} {args : Array Value} {v : Value} {R : World → Prop} (hd : ∀ c, o.op ≠ .defer c)
    (hr : (execOp a.eval o).run P w = .ok (.enter f args) w) (hc : Calls P f args w fun e w' => e = .returned v ∧ R w') (h : ∀ w', R w' → K (a.put o.dst v) w') : o.wpIn Fence.wide n P a w K Q := by
  unfold Oper.wpIn
  rw [Oper.semAt_plain _ _ _ hd, hr]
  exact ⟨fun f _ => trivial, fun h => by simp [Fence.wide] at h, callsIn_wide.2 (hc.mono fun e w' he => by obtain ⟨rfl, hR⟩ := he; exact h w' hR)⟩
end Go.Proofs.YtappgjdnfllblaaDoor
namespace Go.Proofs.YtappgjdnfllblaaDoor
open Go.RowKit Go.ChangeShapes Go.WideShapes Go.Deep

section
variable {F : Fence} {n : Nat} {P : Program} {ops : Array Oper} {Q : Exit → Act → World → Prop} {md : Region.Mode} {S : World → Prop} {late : List Nat}

/-- In every world of S the operation yields v, and leaves the world alone. -/
def YieldsG (P : Program) (ops : Array Oper) (S : World → Prop) (o : Oper) (v : Value) (a : Act) : Prop := Region.wanted o (yielded ops a.tmps) = true ∧ (∀ c, o.op ≠ .defer c) ∧ ∀ w, S w → (execOp a.eval o).run P w = .ok (.value v) w
theorem YieldsG.of_same {o : Oper} {v : Value} {a a' : Act} (hy : YieldsG P ops S o v a) (he : execOp a'.eval o = execOp a.eval o) (hw : Region.wanted o (yielded ops a'.tmps) = Region.wanted o (yielded ops a.tmps)) : YieldsG P ops S o v a' := ⟨hw.trans hy.1, hy.2.1, fun w hw => by rw [he]; exact hy.2.2 w hw⟩
theorem YieldsG.op (hF : ∀ f, F.fn f) {i : Nat} {o : Oper} {v : Value} {a : Act} (hi : ops[i]? = some o) (hy : YieldsG P ops S o v a) {K : Act → World → Prop} {w : World} (hw : S w) (h : K (a.put o.dst v) w) : wpOpIn F n P ops Q i K a w := by
  unfold wpOpIn
  simp only [hi]
  rw [if_pos hy.1]
  unfold Oper.wpIn
  rw [Oper.semAt_plain F _ _ hy.2.1, hy.2.2 w hw]
  exact ⟨fun f _ => hF f, h⟩
theorem wpOpIn_putG (hF : ∀ f, F.fn f) {i j : Nat} {oi oj : Oper} {v : Value} (hj : ops[j]? = some oj) (hap : oi.apart ops oj = true) (hsi : ∀ cs b, oi.op ≠ .select cs b) (hsj : ∀ cs b, oj.op ≠ .select cs b) (hdj : ∀ c, oj.op ≠ .defer c)
    (hQ : ∀ c a w, Q (.panic c) (a.put oi.dst v) w → Q (.panic c) a w) {K : Act → World → Prop} {a : Act} {w : World} (hy : YieldsG P ops S oi v a) (h : wpOpIn F n P ops Q j K (a.put oi.dst v) w) :
    wpOpIn F n P ops Q j (fun a' w' => YieldsG P ops S oi v a' ∧ K (a'.put oi.dst v) w') a w := by
  obtain ⟨h1, h2, h3⟩ := Oper.apart_spec hap
  have keep : ∀ (a : Act), YieldsG P ops S oi v a → ∀ u, YieldsG P ops S oi v (a.put oj.dst u) := fun a hy u => hy.of_same (execOp_put oi hsi a oj.dst u h3) (wanted_put oi a oj.dst u h3)
  unfold wpOpIn at *
  simp only [hj] at *
  rw [wanted_put oj a oi.dst v h1] at h
  split
  · rename_i hw
    simp only [hw, if_true] at h
    unfold Oper.wpIn at *
    refine ⟨fun f _ => hF f, ?_⟩
    have h := h.2
    rw [Oper.semAt_plain F _ _ hdj, execOp_put oj hsj a oi.dst v h1] at h
    rw [Oper.semAt_plain F _ _ hdj]
    generalize (execOp a.eval oj).run P w = r at *
    cases r with
    | ok x w' =>
      cases x <;> simp only [Oper.uponIn] at h ⊢
      case value u => exact ⟨keep a hy u, by rw [← Act.put_comm a v u h2]; exact h⟩
      case skip => exact ⟨keep a hy _, by rw [← Act.put_comm a v undef h2]; exact h⟩
      case defer d =>
        refine ⟨keep { a with defers := d :: a.defers } (hy.of_same rfl rfl) _, ?_⟩
        rw [← Act.put_comm _ v undef h2, ← Act.put_defers]
        exact h
      case enter f args =>
        refine ⟨h.1, CallsIn.mono h.2 fun e w'' he => ?_⟩
        cases e with
        | returned u => exact ⟨keep a hy u, by rw [← Act.put_comm a v u h2]; exact he⟩
        | panicked c => exact hQ _ _ _ he
        | outgrown => exact he
      case row row args => exact ⟨h.1, RowsIn.mono h.2 fun u w'' he => ⟨keep a hy u, by rw [← Act.put_comm a v u h2]; exact he⟩⟩
      case round l f tmps assign body =>
        refine ⟨h.1, RoundIn.mono h.2 fun e w'' he => ?_⟩
        cases e with
        | returned u => exact ⟨keep a hy u, by rw [← Act.put_comm a v u h2]; exact he⟩
        | panicked c => exact hQ _ _ _ he
        | outgrown => exact he
    | halt x w' =>
      cases x <;> simp only [Oper.uponIn] at h ⊢
      case panic u => exact hQ _ _ _ h
  · rename_i hw
    simp only [hw] at h
    exact ⟨fun f _ => hF f, keep a hy _, by rw [← Act.put_comm a v undef h2]; exact h.2⟩

theorem wpAnyG_first {i f0 : Nat} {oi : Oper} {v : Value} {pure : Bool} (hF : ∀ f, F.fn f) (hi : ops[i]? = some oi) (hsel : ∀ (j : Nat) (o : Oper) cs b, ops[j]? = some o → o.op ≠ .select cs b) (hdef : ∀ (j : Nat) (o : Oper) c, ops[j]? = some o → o.op ≠ .defer c)
    (hQ : ∀ c a w, Q (.panic c) (a.put oi.dst v) w → Q (.panic c) a w) (hni : late.contains i = false) (hl : pure = false → ∀ j, late.contains j = true → ancB md ops f0 j i = true) :
    ∀ (fuel : Nat) (listed : Array Bool) (a : Act) (w : World),
      (∀ j oj, ops[j]? = some oj → j ≠ i → listed.getD j true = false → (∀ e ∈ oj.after, Region.binds md e = true → e.on ≠ i) → oi.apart ops oj = true) →
      ShutS md ops listed → i ∈ Region.ready md ops listed → YieldsG P ops (fun w => pure = false → S w) oi v a → (lateFree late listed = true → S w) →
      wpAnyS F n P md ops Q S late fuel (listed.setIfInBounds i true) (a.put oi.dst v) w → wpAnyS F n P md ops Q S late (fuel + 1) listed a w := by
  intro fuel
  induction fuel with
  | zero =>
    intro listed a w _ hsh hr hy hw H
    refine ⟨fun h => (by rw [h] at hr; cases hr), fun j hj => ?_⟩
    by_cases hji : j = i
    · subst hji; exact hy.op hF hi (fun hp => hw (late_shut hsh (ready_not hr) (hl hp))) ⟨fun h => hw (by rwa [late_set hni] at h), H⟩
    · have := ready_mono hj hji
      rw [H.1] at this
      cases this
  | succ fuel ih =>
    intro listed a w hfree hsh hr hy hw H
    refine ⟨fun h => (by rw [h] at hr; cases hr), fun j hj => ?_⟩
    by_cases hji : j = i
    · subst hji; exact hy.op hF hi (fun hp => hw (late_shut hsh (ready_not hr) (hl hp))) ⟨fun h => hw (by rwa [late_set hni] at h), H⟩
    · have h1 := H.2 j (ready_mono hj hji)
      obtain ⟨hjun, oj, hoj, hall⟩ := mem_ready.1 hj
      have hnot : ∀ e ∈ oj.after, Region.binds md e = true → e.on ≠ i := fun e he hb heq => by
        have h1 := hall e he hb
        rw [heq, ready_not hr] at h1
        cases h1
      have h2 := wpOpIn_putG (i := i) hF hoj (hfree j oj hoj hji hjun hnot) (fun cs b => hsel i oi cs b hi) (fun cs b => hsel j oj cs b hoj) (fun c => hdef j oj c hoj) hQ hy h1
      have hfree' : ∀ k ok, ops[k]? = some ok → k ≠ i → (listed.setIfInBounds j true).getD k true = false →
          (∀ e ∈ ok.after, Region.binds md e = true → e.on ≠ i) → oi.apart ops ok = true := fun k ok hk hki hun hno => by
        refine hfree k ok hk hki ?_ hno
        by_cases hjk : j = k
        · subst hjk; exact hjun
        · rw [getD_set_ne true hjk] at hun; exact hun
      have hcm : (listed.setIfInBounds i true).setIfInBounds j true = (listed.setIfInBounds j true).setIfInBounds i true := Array.setIfInBounds_comm _ _ (Ne.symm hji)
      refine wpOpIn_mono (fun a' w' h3 => ?_) h2
      have hS : lateFree late (listed.setIfInBounds j true) = true → S w' := fun h => h3.2.1 (by rw [hcm, late_set hni]; exact h)
      refine ⟨hS, ih (listed.setIfInBounds j true) a' w' hfree' (hsh.step hj) (ready_mono hr (Ne.symm hji)) h3.1 hS ?_⟩
      rw [← hcm]
      exact h3.2.2
theorem wpAnyG_take_ {pure : Bool} {i : Nat} {oi : Oper} {v : Value} {fuel : Nat} {listed : Array Bool} {a : Act} {w : World} (hF : ∀ f, F.fn f) (hi : ops[i]? = some oi) (ht : takeB md ops late listed pure i = true)
    (hQ : ∀ c a (d : Tmp) v w, Q (.panic c) (a.put (some d) v) w → Q (.panic c) a w) (hy : YieldsG P ops (fun w => pure = false → S w) oi v a) (hw : lateFree late listed = true → S w)
    (h : wpAnyS F n P md ops Q S late fuel (listed.setIfInBounds i true) (a.put oi.dst v) w) : wpAnyS F n P md ops Q S late (fuel + 1) listed a w := by
  simp only [takeB, Bool.and_eq_true] at ht
  obtain ⟨⟨⟨⟨⟨h1, h2⟩, h3⟩, h4⟩, h6⟩, h5⟩ := ht
  obtain ⟨p1, p2⟩ := plainB_spec h4
  refine wpAnyG_first (f0 := ops.size) hF hi p1 p2 (fun c a w h => by
    cases hd : oi.dst with
    | none => rw [hd] at h; exact h
    | some d => rw [hd] at h; exact hQ c a d _ w h) (by simpa using h6) (fun hp j hj => ?_) fuel listed a w (Region.free_spec hi h2) (shutB_spec h3) (by simpa using h1) hy hw h
  rw [hp] at h5
  simp only [Bool.false_or, List.all_eq_true] at h5
  exact h5 j (by simpa using hj)
/-- A load is taken first. -/
theorem wpAnyG_take (i : Nat) {oi : Oper} {v : Value} {fuel : Nat} {listed : Array Bool} {a : Act} {w : World} (hF : ∀ f, F.fn f) (hi : ops[i]? = some oi) (ht : takeB md ops late listed false i = true)
    (hQ : ∀ c a (d : Tmp) v w, Q (.panic c) (a.put (some d) v) w → Q (.panic c) a w) (hy : YieldsG P ops S oi v a) (hw : S w)
    (h : wpAnyS F n P md ops Q S late fuel (listed.setIfInBounds i true) (a.put oi.dst v) w) : wpAnyS F n P md ops Q S late (fuel + 1) listed a w :=
  wpAnyG_take_ hF hi ht hQ ⟨hy.1, hy.2.1, fun w hw => hy.2.2 w (hw rfl)⟩ (fun _ => hw) h
/-- What yields its value in every world is taken first, as long as S is known. -/
theorem wpAnyG_pure (i : Nat) {oi : Oper} {v : Value} {fuel : Nat} {listed : Array Bool} {a : Act} {w : World} (hF : ∀ f, F.fn f) (hi : ops[i]? = some oi) (ht : takeB md ops late listed true i = true)
    (hQ : ∀ c a (d : Tmp) v w, Q (.panic c) (a.put (some d) v) w → Q (.panic c) a w) (hy : YieldsG P ops (fun _ => True) oi v a) (hw : S w)
    (h : wpAnyS F n P md ops Q S late fuel (listed.setIfInBounds i true) (a.put oi.dst v) w) : wpAnyS F n P md ops Q S late (fuel + 1) listed a w :=
  wpAnyG_take_ hF hi ht hQ ⟨hy.1, hy.2.1, fun w _ => hy.2.2 w trivial⟩ (fun _ => hw) h
/-- .. and behind the first of the late ones. -/
theorem wpAnyG_pureL (i : Nat) {oi : Oper} {v : Value} {fuel : Nat} {listed : Array Bool} {a : Act} {w : World} (hF : ∀ f, F.fn f) (hi : ops[i]? = some oi) (ht : takeB md ops late listed true i = true) (hlf : lateFree late listed = false)
    (hQ : ∀ c a (d : Tmp) v w, Q (.panic c) (a.put (some d) v) w → Q (.panic c) a w) (hy : YieldsG P ops (fun _ => True) oi v a)
    (h : wpAnyS F n P md ops Q S late fuel (listed.setIfInBounds i true) (a.put oi.dst v) w) : wpAnyS F n P md ops Q S late (fuel + 1) listed a w :=
  wpAnyG_take_ hF hi ht hQ ⟨hy.1, hy.2.1, fun w _ => hy.2.2 w trivial⟩ (fun h => by rw [hlf] at h; cases h) h
theorem AllReadyS.consG {fuel : Nat} {listed : Array Bool} {a : Act} {w : World} {i : Nat} {o : Oper} {rs : List Nat} (ho : ops[i]? = some o) (hg : Region.wanted o (yielded ops a.tmps) = true)
    (h : ∀ K' : Act → World → Prop, Hid (∀ a w, S w → wpAnyS F n P md ops Q S late fuel (listed.setIfInBounds i true) a w → K' a w) → Oper.wpIn F n P o a w K' Q)
    (hs : AllReadyS F n P md ops Q S late fuel listed a w rs) : AllReadyS F n P md ops Q S late fuel listed a w (i :: rs) := fun j hj => by
  rcases List.mem_cons.1 hj with rfl | hj
  · unfold wpOpIn
    simp only [ho]
    rw [if_pos hg]
    exact h _ (hid fun a w h1 h2 => ⟨fun _ => h1, h2⟩)
  · exact hs j hj
/-- A late one, or one that comes behind a late one: S is not asked. -/
theorem AllReadyS.consLG {fuel : Nat} {listed : Array Bool} {a : Act} {w : World} {i : Nat} {o : Oper} {rs : List Nat} (ho : ops[i]? = some o) (hg : Region.wanted o (yielded ops a.tmps) = true) (hlf : lateFree late (listed.setIfInBounds i true) = false)
    (h : ∀ K' : Act → World → Prop, Hid (∀ a w, wpAnyS F n P md ops Q S late fuel (listed.setIfInBounds i true) a w → K' a w) → Oper.wpIn F n P o a w K' Q)
    (hs : AllReadyS F n P md ops Q S late fuel listed a w rs) : AllReadyS F n P md ops Q S late fuel listed a w (i :: rs) := fun j hj => by
  rcases List.mem_cons.1 hj with rfl | hj
  · unfold wpOpIn
    simp only [ho]
    rw [if_pos hg]
    exact h _ (hid fun a w h2 => ⟨fun h1 => (by rw [hlf] at h1; cases h1), h2⟩)
  · exact hs j hj
end
end Go.Proofs.YtappgjdnfllblaaDoor
namespace Go.Proofs.YtappgjdnfllblaaDoor
open Go.RowKit Go.IntWalk

theorem gr_set (w : World) (b i : Nat) (u : Value) : w.grownBy (w.setCell ⟨b, i, none⟩ u) (some b) :=
  ⟨rfl, rfl, rfl, by simp, fun k _ hk => Below.heap_setCell w _ u k (fun e => hk (by rw [e]))⟩
theorem gr_tr {w w1 w2 : World} {r : Option Nat} (h : w.grownBy w1 r) (h2 : w1.grownBy w2 r) : w.grownBy w2 r :=
  ⟨h2.os.trans h.os, h2.tape.trans h.tape, h2.output.trans h.output, Nat.le_trans h.size h2.size, fun k hk hr => (h2.block k (Nat.lt_of_lt_of_le hk h.size) hr).trans (h.block k hk hr)⟩
theorem OwnI.form {w : World} {base : Nat} {v : Value} {l : List Int} (h : OwnI w base v l) : ∃ A c, v = .slice A l.length c ∧ (l ≠ [] → ∃ g, A = some ⟨g, 0, none⟩ ∧ base ≤ g ∧ g < w.heap.size ∧ (∀ k (hk : k < l.length), w.cell? ⟨g, k, none⟩ = some (.int .i64 l[k])) ∧ ∀ k, w.frozen? ⟨g, k, none⟩ = false) := by
  rcases h.2 with ⟨hv, hn⟩ | ⟨g, cap, cur, hv, hg, hb, hc, hm, hs, ht⟩
  · have : l = [] := List.eq_nil_of_length_eq_zero hn
    subst this
    exact ⟨none, 0, hv, fun h => absurd rfl h⟩
  · have hb : Blk w g 3 cur := hb
    refine ⟨_, cap, hv, fun _ => ⟨g, rfl, hg, hb.lt, fun k hk => ?_, fun k => hb.frozen k⟩⟩
    rw [hb.cell]
    have e : cur[k]? = cur.toList[k]? := by simp
    have e2 : (cur.toList.take (l.length * 1))[k]? = cur.toList[k]? := List.getElem?_take_of_lt (by omega)
    rw [e, ← e2, ht, List.getElem?_map, List.getElem?_eq_getElem hk]
    rfl
theorem OwnI.at_ {w : World} {base g c n : Nat} {l : List Int} (h : OwnI w base (.slice (some ⟨g, 0, none⟩) n c) l) {k : Nat} (hk : k < l.length) : w.cell? ⟨g, k, none⟩ = some (.int .i64 l[k]) := by
  obtain ⟨A, c', hv, hA⟩ := h.form
  obtain ⟨g', rfl, _, _, hc, _⟩ := hA (by intro e; subst e; simp at hk)
  simp only [Value.slice.injEq, Option.some.injEq, Addr.mk.injEq] at hv
  obtain ⟨⟨rfl, _⟩, _, _⟩ := hv
  exact hc k hk
theorem OwnI.set_ {w : World} {base g c n : Nat} {l : List Int} (h : OwnI w base (.slice (some ⟨g, 0, none⟩) n c) l) {k : Nat} (hk : k < l.length) (y : Int) : OwnI (w.setCell ⟨g, k, none⟩ (.int .i64 y)) base (.slice (some ⟨g, 0, none⟩) n c) (l.set k y) := by
  rcases h.2 with ⟨hv, _⟩ | ⟨g', cap, cur, hv, hg, hb, hc, hm, hs, ht⟩
  · simp at hv
  · simp only [Value.slice.injEq, Option.some.injEq, Addr.mk.injEq, and_true] at hv
    obtain ⟨rfl, rfl, rfl⟩ := hv
    have hb : Blk w g 3 cur := hb
    have hb' := hb.set_ k (.int .i64 y)
    refine ⟨by simp, .inr ⟨g, c, _, by simp, hg, hb', by simpa using hc, hm, by simpa using hs, ?_⟩⟩
    rw [Array.toList_setIfInBounds]
    simp only [List.length_set]
    rw [List.map_set, ← ht, List.take_set]
theorem OwnI.lt {w : World} {base : Nat} {v : Value} {l : List Int} (h : OwnI w base v l) : ∀ k, v.ownBlock = some k → base ≤ k ∧ k < w.heap.size := World.ownsRow.lt h
theorem gr_drew (w : World) (row : Option Nat) : w.grownBy w.drew row := ⟨rfl, rfl, rfl, Nat.le_refl _, fun _ _ _ => rfl⟩
theorem gr_below {w w' : World} (h : Below w.heap.size w w') (row : Option Nat) : w.grownBy w' row := ⟨h.os, h.tape, h.output, h.size, fun k hk _ => h.block k hk⟩
/-- Whole blocks of these types are as they were. -/
def KT (ts : List TypeId) (w w' : World) : Prop := ∀ g t cs, t ∈ ts → Blk w g t cs → Blk w' g t cs
theorem KT.refl (ts : List TypeId) (w : World) : KT ts w w := fun _ _ _ _ h => h
theorem KT.trans {ts : List TypeId} {a b c : World} (h : KT ts a b) (h' : KT ts b c) : KT ts a c := fun g t cs ht hb => h' g t cs ht (h g t cs ht hb)
theorem KT.of_below {ts : List TypeId} {w w' : World} (h : Below w.heap.size w w') : KT ts w w' := fun _ _ _ _ hb => hb.below h hb.lt
theorem KT.of_grown {ts : List TypeId} {w w' : World} {row : Option Nat} (h : w.grownBy w' row) (hr : ∀ g, row = some g → ∃ t cs, Blk w g t cs ∧ t ∉ ts) : KT ts w w' := fun g t cs ht hb => hb.grown h (fun e => by
  obtain ⟨t', cs', hb', hn⟩ := hr g e.symm
  have he : t = t' := Classical.byContradiction fun hne => Blk.ne_ hb hb' hne rfl
  exact hn (he ▸ ht))
theorem KT.of_set {ts : List TypeId} {w : World} {g i : Nat} {t : TypeId} {cs : Array Value} (h : Blk w g t cs) (ht : t ∉ ts) (u : Value) : KT ts w (w.setCell ⟨g, i, none⟩ u) :=
  KT.of_grown (gr_set w g i u) (fun g' e => by injection e with e; subst e; exact ⟨t, cs, h, ht⟩)
/-- A row of the call's own: kept, when its block is. -/
theorem own_kept {w w' : World} {base : Nat} {e : TypeId} {size n : Nat} {v : Value} {xs : List Value} (h : w.ownsRow base e size v n xs) (hk : ∀ g cs, v.ownBlock = some g → Blk w g e cs → Blk w' g e cs) : w'.ownsRow base e size v n xs := by
  refine ⟨h.1, ?_⟩
  rcases h.2 with h0 | ⟨g, cap, cur, hv, hg, hh, r⟩
  · exact .inl h0
  · exact .inr ⟨g, cap, cur, hv, hg, hk g cur (by rw [hv]; rfl) hh, r⟩
theorem own_kt {ts : List TypeId} {w w' : World} {base : Nat} {e : TypeId} {size n : Nat} {v : Value} {xs : List Value} (h : w.ownsRow base e size v n xs) (hk : KT ts w w') (ht : e ∈ ts) : w'.ownsRow base e size v n xs :=
  own_kept h (fun g cs _ hb => hk g e cs ht hb)
theorem own_base {w : World} {base base' : Nat} {e : TypeId} {size n : Nat} {v : Value} {xs : List Value} (h : w.ownsRow base e size v n xs) (hb : base' ≤ base) : w.ownsRow base' e size v n xs :=
  ⟨h.1, h.2.imp id (fun ⟨g, cap, cur, hv, hg, r⟩ => ⟨g, cap, cur, hv, Nat.le_trans hb hg, r⟩)⟩
theorem own_blk {w : World} {base : Nat} {e : TypeId} {size n : Nat} {v : Value} {xs : List Value} (h : w.ownsRow base e size v n xs) (g : Nat) (hg : v.ownBlock = some g) : base ≤ g ∧ ∃ cs, Blk w g e cs := by
  rcases h.2 with ⟨hv, _⟩ | ⟨g', cap, cur, hv, hb, hh, _⟩
  · rw [hv] at hg; simp [Value.ownBlock] at hg
  · rw [hv] at hg
    have : g' = g := by simpa [Value.ownBlock] using hg
    subst this
    exact ⟨hb, cur, hh⟩
/-- A cell of a row: its block and place. -/
theorem own_cell {w : World} {base : Nat} {e : TypeId} {size n : Nat} {v : Value} {xs : List Value} (h : w.ownsRow base e size v n xs) (hn : 0 < n) : ∃ g cap cur, v = .slice (some ⟨g, 0, none⟩) n cap ∧ base ≤ g ∧ Blk w g e cur ∧ n ≤ cap ∧ cap ≤ maxLen ∧ ∀ j, j < n * size → cur[j]? = xs[j]? := by
  rcases h.2 with ⟨_, h0⟩ | ⟨g, cap, cur, hv, hb, hh, hc, hm, hs, ht⟩
  · omega
  · refine ⟨g, cap, cur, hv, hb, hh, hc, hm, fun j hj => ?_⟩
    have e1 : cur[j]? = cur.toList[j]? := by simp
    rw [e1, ← ht, List.getElem?_take_of_lt hj]
/-- A row of the call's own: one cell anew. -/
theorem own_set {w : World} {base : Nat} {e : TypeId} {size n q c : Nat} {xs : List Value} (h : w.ownsRow base e size (.slice (some ⟨q, 0, none⟩) n c) n xs) {k : Nat} (hk : k < n * size) (u : Value) : (w.setCell ⟨q, k, none⟩ u).ownsRow base e size (.slice (some ⟨q, 0, none⟩) n c) n (xs.set k u) := by
  rcases h.2 with ⟨hv, _⟩ | ⟨g, cap, cur, hv, hb, hh, hc, hm, hs, ht⟩
  · cases hv
  · injection hv with h1 h2 h3
    injection h1 with h1
    injection h1 with h1
    subst h1 h3
    have hh : Blk w q e cur := hh
    have hlen := congrArg List.length ht
    refine ⟨by simpa using h.1, .inr ⟨q, c, cur.setIfInBounds k u, rfl, hb, hh.set_ k u, hc, hm, by simpa using hs, ?_⟩⟩
    rw [Array.toList_setIfInBounds, ← ht, List.take_set]
/-- append of nothing. -/
theorem run_append0 {t e : TypeId} {i : TypeInfo} (ht : Tryd.prog.underlying t = some (.slice e)) (hne : ∀ k, TypeDesc.slice e ≠ .int k) (hi : Tryd.prog.info? e = some i) (w : World) (ty : TypeId) (A B : Option Addr) (n c d : Nat) (hnc : n ≤ c) :
    (Builtin.append_ #[t, t] ty #[.slice A n c, .slice B 0 d]).run Tryd.prog w = .ok (.slice A n c) w := by
  cases A <;> cases B <;> simp [Builtin.append_, run_underlying ht, sizeOf, typeInfo, hi, storeCells, loadCells, Builtin.lenOf, Builtin.firstCells, go_sem, hnc]
/-- append of a whole row of the call's own. -/
theorem run_appOwn {t e : TypeId} {i : TypeInfo} {z : Value} {size bytes : Nat} (ht : Tryd.prog.underlying t = some (.slice e)) (hi : Tryd.prog.info? e = some i) (hz : i.zero = some z) (hs : i.size = size) (hb : i.bytes = bytes) (hzs : z.cells.size = size) (hsz : 0 < size) (w : World) (ty : TypeId)
    (base : Nat) (v : Value) (n : Nat) (xs : List Value) (hown : w.ownsRow base e size v n xs) (b2 : Nat) (u : Value) (m : Nat) (ys : List Value) (hu : w.ownsRow b2 e size u m ys) (h1 : ∀ x ∈ ys, x.oneCell' = true) (h63 : n + m ≤ maxLen) (hby : (n + m) * bytes ≤ 140737488355328) (hbase : base ≤ w.heap.size) :
    ∃ v' w', (Builtin.append_ #[t, t] ty #[v, u]).run Tryd.prog w = .ok v' w' ∧ w'.ownsRow base e size v' (n + m) (xs ++ ys) ∧ w.grownBy w' v.ownBlock := by
  rcases hu.2 with ⟨rfl, rfl⟩ | ⟨g, cap, cur, rfl, hg, hh, hc, hm, hsz2, ht2⟩
  · have hy : ys = [] := List.eq_nil_of_length_eq_zero (by simpa using hu.1)
    subst hy
    obtain ⟨A, c, rfl, hnc⟩ : ∃ A c, v = .slice A n c ∧ n ≤ c := by
      rcases hown.2 with ⟨rfl, rfl⟩ | ⟨g, cap, cur, rfl, _, _, hc, _⟩
      · exact ⟨none, 0, rfl, Nat.le_refl _⟩
      · exact ⟨_, cap, rfl, hc⟩
    refine ⟨_, w, run_append0 ht (by intro k h; cases h) hi w ty A none n c 0 hnc, by simpa using hown, World.grownBy.refl _ _⟩
  · have hb2 : Blk w g e cur := hh
    obtain ⟨v', w', h1', h2', h3', _⟩ := run_append_own_at (P := Tryd.prog) w base t ty e i z size bytes ht hi hz hs hb hzs hsz v n xs hown ⟨g, 0, none⟩ m cap ys hu.1 (fun j x hx => by
      have : w.cell? ((⟨g, 0, none⟩ : Addr).add j) = cur[j]? := by
        unfold Addr.add
        by_cases h0 : j = 0
        · subst h0; simp [hb2.cell]
        · simp [h0, hb2.cell]
      rw [this]
      have e1 : cur[j]? = cur.toList[j]? := by simp
      have hj : j < m * size := by have := (List.getElem?_eq_some_iff.1 hx).1; rw [hu.1] at this; exact this
      rw [e1, ← List.getElem?_take_of_lt hj, ht2, hx]) h1 h63 hby hbase
    exact ⟨v', w', h1', h2', h3'⟩
/-- A call that hands a value back, in a drawn region. -/
theorem callV {n : Nat} {P : Program} {o : Oper} {a : Act} {w : World} {K : Act → World → Prop} {Q : Exit → Act → World → Prop} {f : FuncId} {args : Array Value} {R : Value → World → Prop} (hd : ∀ c, o.op ≠ .defer c)
    (hr : (execOp a.eval o).run P w = .ok (.enter f args) w) (hc : Calls P f args w fun e w' => ∃ v, e = .returned v ∧ R v w') (h : ∀ v w', R v w' → K (a.put o.dst v) w') : o.wpIn Fence.wide n P a w K Q := by
  unfold Oper.wpIn
  rw [Oper.semAt_plain _ _ _ hd, hr]
  exact ⟨fun f _ => trivial, fun h => by simp [Fence.wide] at h, callsIn_wide.2 (hc.mono fun e w' he => by obtain ⟨v, rfl, hR⟩ := he; exact h v w' hR)⟩
theorem own_form {w : World} {base : Nat} {e : TypeId} {size n : Nat} {v : Value} {xs : List Value} (h : w.ownsRow base e size v n xs) : ∃ A c, v = .slice A n c := by
  rcases h.2 with ⟨rfl, rfl⟩ | ⟨g, cap, cur, rfl, _⟩
  · exact ⟨none, 0, rfl⟩
  · exact ⟨_, cap, rfl⟩
end Go.Proofs.YtappgjdnfllblaaDoor
namespace Go.Proofs.YtappgjdnfllblaaDoor
open Go.RowKit Go.IntWalk

/-- What its home knows of a zone: until when it is lent, the number of the last gift, asked or not. -/
abbrev Ho := Int × Int × Bool
/-- What its guest knows: until when it is held, the greatest number heard, the greatest one given back, how often it asked. -/
abbrev Gu := Int × Int × Int × Int
/-- A note about a zone: kind (0 ask, 1 give, 2 back), until, number. -/
abbrev N3t := Int × Int × Int
def giveOK (h : Ho) (unt now : Int) : Prop := now < unt ∧ unt ≤ now + 1000 ∧ h.1 ≤ max unt now
def giveH (h : Ho) (unt : Int) : Ho := (unt, h.2.1 + 1, false)
def askG (g : Gu) : Gu := (g.1, g.2.1, g.2.2.1, g.2.2.2 + 1)
def backG (g : Gu) : Gu := (0, g.2.1, g.2.1, g.2.2.2)
def hearH (h : Ho) (m : N3t) : Ho := if m.1 = 0 then (h.1, h.2.1, true) else if m.1 = 2 ∧ m.2.2 = h.2.1 then (0, h.2.1, h.2.2) else h
def hearG (g : Gu) (m : N3t) : Gu := if g.2.2.1 < m.2.2 then (max g.1 m.2.1, max g.2.1 m.2.2, g.2.2.1, g.2.2.2) else g
/-- What holds always, of one zone. -/
structure ZI (h : Ho) (g : Gu) (F : List N3t) : Prop where
  g0 : 0 ≤ g.2.2.1
  gh : g.2.2.1 ≤ g.2.1
  hn : g.2.1 ≤ h.2.1
  gv : ∀ m ∈ F, m.1 = 1 → 1 ≤ m.2.2 ∧ m.2.2 ≤ h.2.1 ∧ 0 ≤ m.2.1 ∧ (g.2.2.1 < m.2.2 → m.2.1 ≤ h.1)
  bk : ∀ m ∈ F, m.1 = 2 → m.2.2 ≤ g.2.2.1
  hl : g.1 ≤ h.1
  h0 : 0 ≤ g.1
  hz : g.2.1 ≤ g.2.2.1 → g.1 = 0
theorem ZI.start : ZI (0, 0, false) (0, 0, 0, 0) [] := ⟨by simp, by simp, by simp, by simp, by simp, by simp, by simp, by simp⟩
theorem ZI.sub {h : Ho} {g : Gu} {F F' : List N3t} (z : ZI h g F) (hs : ∀ m ∈ F', m ∈ F) : ZI h g F' :=
  ⟨z.g0, z.gh, z.hn, fun m hm => z.gv m (hs m hm), fun m hm => z.bk m (hs m hm), z.hl, z.h0, z.hz⟩
theorem ZI.ask {h : Ho} {g : Gu} {F : List N3t} (z : ZI h g F) (u i : Int) : ZI h (askG g) (F ++ [(0, u, i)]) := by
  refine ⟨z.g0, z.gh, z.hn, fun m hm h1 => ?_, fun m hm h1 => ?_, z.hl, z.h0, z.hz⟩
  · rcases List.mem_append.1 hm with hm | hm
    · exact z.gv m hm h1
    · rw [List.mem_singleton.1 hm] at h1; simp at h1
  · rcases List.mem_append.1 hm with hm | hm
    · exact z.bk m hm h1
    · rw [List.mem_singleton.1 hm] at h1; simp at h1
theorem ZI.give {h : Ho} {g : Gu} {F : List N3t} (z : ZI h g F) {unt now : Int} (h0 : 0 ≤ now) (ho : giveOK h unt now) : ZI (giveH h unt) g (F ++ [(1, unt, h.2.1 + 1)]) := by
  obtain ⟨o1, o2, o3⟩ := ho
  have a1 := z.g0; have a2 := z.gh; have a3 := z.hn; have a4 := z.hl; have a5 := z.h0
  refine ⟨z.g0, z.gh, ?_, fun m hm h1 => ?_, fun m hm h1 => ?_, ?_, z.h0, z.hz⟩
  · simp only [giveH]; omega
  · rcases List.mem_append.1 hm with hm | hm
    · obtain ⟨b1, b2, b3, b4⟩ := z.gv m hm h1
      refine ⟨b1, by simp only [giveH]; omega, b3, fun hg => ?_⟩
      have := b4 hg
      simp only [giveH]; omega
    · rw [List.mem_singleton.1 hm]
      simp only [giveH]
      exact ⟨by omega, by omega, by omega, fun _ => by omega⟩
  · rcases List.mem_append.1 hm with hm | hm
    · exact z.bk m hm h1
    · rw [List.mem_singleton.1 hm] at h1; simp at h1
  · simp only [giveH]; omega
theorem ZI.back {h : Ho} {g : Gu} {F : List N3t} (z : ZI h g F) (u : Int) : ZI h (backG g) (F ++ [(2, u, g.2.1)]) := by
  have a1 := z.g0; have a2 := z.gh; have a3 := z.hn; have a4 := z.hl; have a5 := z.h0
  refine ⟨by simp only [backG]; omega, by simp [backG], by simp only [backG]; omega, fun m hm h1 => ?_, fun m hm h1 => ?_, by simp only [backG]; omega, by simp [backG], by simp [backG]⟩
  · rcases List.mem_append.1 hm with hm | hm
    · obtain ⟨b1, b2, b3, b4⟩ := z.gv m hm h1
      refine ⟨b1, b2, b3, fun hg => b4 (by simp only [backG] at hg; omega)⟩
    · rw [List.mem_singleton.1 hm] at h1; simp at h1
  · rcases List.mem_append.1 hm with hm | hm
    · have := z.bk m hm h1; simp only [backG]; omega
    · rw [List.mem_singleton.1 hm]; simp [backG]
theorem ZI.hearH {h : Ho} {g : Gu} {F : List N3t} (z : ZI h g F) {m : N3t} (hm : m ∈ F) : ZI (hearH h m) g F := by
  have a1 := z.g0; have a2 := z.gh; have a3 := z.hn; have a4 := z.hl; have a5 := z.h0
  unfold Go.Proofs.YtappgjdnfllblaaDoor.hearH
  by_cases c1 : m.1 = 0
  · rw [if_pos c1]
    exact ⟨z.g0, z.gh, z.hn, z.gv, z.bk, z.hl, z.h0, z.hz⟩
  · rw [if_neg c1]
    by_cases c2 : m.1 = 2 ∧ m.2.2 = h.2.1
    · rw [if_pos c2]
      have hb := z.bk m hm c2.1
      have hH : g.1 = 0 := z.hz (by omega)
      refine ⟨z.g0, z.gh, z.hn, fun p hp h1 => ?_, z.bk, by simp only; omega, z.h0, z.hz⟩
      obtain ⟨b1, b2, b3, b4⟩ := z.gv p hp h1
      exact ⟨b1, b2, b3, fun hg => by omega⟩
    · rw [if_neg c2]; exact z
theorem ZI.hearG {h : Ho} {g : Gu} {F : List N3t} (z : ZI h g F) {m : N3t} (hm : m ∈ F) (h1 : m.1 = 1) : ZI h (hearG g m) F := by
  have a1 := z.g0; have a2 := z.gh; have a3 := z.hn; have a4 := z.hl; have a5 := z.h0
  obtain ⟨b1, b2, b3, b4⟩ := z.gv m hm h1
  unfold Go.Proofs.YtappgjdnfllblaaDoor.hearG
  by_cases c : g.2.2.1 < m.2.2
  · rw [if_pos c]
    have := b4 c
    exact ⟨z.g0, by simp only; omega, by simp only; omega, z.gv, z.bk, by simp only; omega, by simp only; omega, fun h => by simp only at h; omega⟩
  · rw [if_neg c]; exact z
/-- Not both hold the zone, each by its own clock. -/
theorem ZI.apart {h : Ho} {g : Gu} {F : List N3t} (z : ZI h g F) {ch cg : Int} (hc : ch ≤ cg + 2) (h1 : h.1 ≤ ch) (h2 : cg + 2 < g.1) : False := by
  have := z.hl; omega
/-- A clock: the time, and how far it is ahead. It never goes back, and is ahead by at most 2. -/
def tickA (ahead t k : Int) : Int := max k (ahead - t)
theorem tickA_ok {ahead t k : Int} (h0 : 0 ≤ ahead) (h2 : ahead ≤ 2) (ht : 0 ≤ t) (k0 : 0 ≤ k) (k2 : k ≤ 2) : 0 ≤ tickA ahead t k ∧ tickA ahead t k ≤ 2 ∧ ∀ time, time + ahead ≤ time + t + tickA ahead t k := by
  unfold tickA
  refine ⟨by omega, by omega, fun time => by omega⟩
/-- What is lent ends soon: no later than 30 ticks behind the home's clock. -/
theorem give_soon {h : Ho} {unt now : Int} (hu : unt ≤ now + 30) : (giveH h unt).1 ≤ now + 30 := hu
end Go.Proofs.YtappgjdnfllblaaDoor
namespace Go.Proofs.YtappgjdnfllblaaDoor
open Go.RowKit Go.IntWalk Go.Maps Go.WideMaps

def litV : Value → Option Lit
  | .int q n => some (.int q n)
  | .bool b => some (.bool b)
  | _ => none
/-- How a struct of numbers and truth values reads. -/
def aggR : Value → Option (DataW Unit × List MemPlace)
  | .agg cs => (cs.toList.mapM litV).map (fun ls => (.agg (ls.map .lit), []))
  | _ => none
/-- How an element of a map lies: its type, the map's, its value, what it reads as. -/
structure MK (T : Type) where
  e : TypeId
  t : TypeId
  cs : T → Value
  dat : T → DataW Unit
  zero : T
  und : Tryd.prog.underlying t = some (.map 3 e)
  zv : ∀ w, (zeroValue e).run Tryd.prog w = .ok (cs zero) w
  rd : ∀ x, aggR (cs x) = some (dat x, [])
  inj : ∀ v x ps, aggR v = some (dat x, ps) → v = cs x
theorem intKeyed : Keyed Tryd.prog 3 := int_keyed Tryd.underlying3
theorem intKey (z : Int) (h : I64 z) : keyOf Tryd.prog 3 (.int .i64 z) = some (.int .i64 z) :=
  keyOf_int_mk Tryd.underlying3 (by
    obtain ⟨h1, h2⟩ := h
    simp [Lit.wf, IntKind.min, IntKind.max, IntKind.bits, IntKind.signed]
    omega)
section
variable {T : Type} {M : MK T} {w w' : World} {b m : Nat} {f : Int → T} {p : Int → Bool}
/-- Block b is a map of the call's own: f z stands at z, p z: there is such a key; at most m of them. -/
def MK.Own (M : MK T) (w : World) (b : Nat) (f : Int → T) (p : Int → Bool) (m : Nat) : Prop :=
  ∃ D n, w.ownsMap Tryd.prog 3 aggR b n D ∧ n ≤ m ∧ (∀ z, D.atKey (.int .i64 z) (M.dat M.zero) = M.dat (f z)) ∧ ∀ z, Maps.has D (.int .i64 z) = p z
theorem MK.Own.made (M : MK T) (w : World) : M.Own (w.alloc (.map #[] 0)) w.heap.size (fun _ => M.zero) (fun _ => false) 0 :=
  ⟨_, 0, World.ownsMap_made w _ _ _, Nat.le_refl _, fun _ => rfl, fun _ => rfl⟩
theorem MK.Own.lt (h : M.Own w b f p m) : b < w.heap.size := by obtain ⟨D, n, h1, _⟩ := h; exact h1.lt
theorem MK.Own.kept {row : Option Nat} (h : M.Own w b f p m) (hg : w.grownBy w' row) (hne : some b ≠ row) : M.Own w' b f p m := by
  obtain ⟨D, n, h1, h2, h3, h4⟩ := h
  exact ⟨D, n, h1.kept hg hne, h2, h3, h4⟩
theorem MK.Own.below (h : M.Own w b f p m) (hb : Below w.heap.size w w') : M.Own w' b f p m := h.kept (gr_below hb none) (by simp)
theorem MK.Own.look (h : M.Own w b f p m) {z : Int} (hz : I64 z) : (Instr.lookup M.t (.map (some b)) (.int .i64 z) false).run Tryd.prog w = .ok (M.cs (f z)) w := by
  obtain ⟨D, n, h1, _, h3, _⟩ := h
  obtain ⟨v, ps, hr, hv⟩ := h1.lookup intKeyed M.und (M.zv w) (M.rd M.zero) (intKey z hz)
  rw [h3 z] at hv
  rw [hr, M.inj v _ _ hv]
theorem MK.Own.look2 (h : M.Own w b f p m) {z : Int} (hz : I64 z) : (Instr.lookup M.t (.map (some b)) (.int .i64 z) true).run Tryd.prog w = .ok (.tuple #[M.cs (f z), .bool (p z)]) w := by
  obtain ⟨D, n, h1, _, h3, h4⟩ := h
  obtain ⟨v, ps, hr, hv⟩ := h1.look_ok intKeyed M.und (M.zv w) (M.rd M.zero) (intKey z hz)
  rw [h3 z] at hv
  rw [hr, M.inj v _ _ hv, h4 z]
theorem ownsMap_size {P : Program} {k : TypeId} {R : Value → Option (DataW Unit × List MemPlace)} {n : Nat} {D : DataW Unit} (h : w.ownsMap P k R b n D) : w.ownsMap P k R b (Maps.size D) D := by
  obtain ⟨es, clock, hb, F, _, rfl⟩ := h
  exact ⟨es, clock, hb, F, by simp [Maps.size, length_sorted], rfl⟩
theorem keyLit (z : Int) : WideAt.IsKeyLit (.int .i64 z) := trivial
/-- A store into a map of the call's own. -/
theorem MK.Own.put (h : M.Own w b f p m) {z : Int} (hz : I64 z) (hm : m < maxLen) (x : T) :
    ∃ w2, (Instr.mapUpdate M.t (.map (some b)) (.int .i64 z) (M.cs x)).run Tryd.prog w = .ok () w2 ∧ M.Own w2 b (fun y => if y = z then x else f y) (fun y => if y = z then true else p y) (if p z then m else m + 1) ∧ w.grownBy w2 (some b) := by
  obtain ⟨D, n, h1, h2, h3, h4⟩ := h
  obtain ⟨w2, hr, h5, hg⟩ := h1.update intKeyed M.und (Nat.lt_of_le_of_lt h2 hm) (intKey z hz) (M.rd x)
  refine ⟨w2, hr, ⟨D.put (.int .i64 z) (M.dat x), _, ownsMap_size h5, ?_, fun y => ?_, fun y => ?_⟩, hg⟩
  · rw [size_put (h1.tidy intKeyed), h4 z]
    have := h1.size_le
    split <;> omega
  · show _ = M.dat (if y = z then x else f y)
    by_cases e : y = z
    · subst e
      rw [if_pos rfl, atKey_put_same h1.isMap (keyLit y)]
    · rw [if_neg e, atKey_put_other (fun h => e (by injection h)), h3 y]
  · show _ = (if y = z then true else p y)
    by_cases e : y = z
    · subst e
      rw [if_pos rfl, has_put_same h1.isMap (keyLit y)]
    · rw [if_neg e, has_put_other (fun h => e (by injection h)), h4 y]
/-- A store into a map of the call's own, at the operation. -/
theorem MK.wp_put (M : MK T) {ops : Array Oper} {rest : List Oper} {o : Oper} {a : Act} {Q : Exit → Act → World → Prop} (w : World) (hg : o.guard = none) (ma x v : Operand) (hop : o.op = Op.mapUpdate M.t ma x v)
    (hown : M.Own w b f p m) (hm : a.eval ma = .map (some b)) {z : Int} (hx : a.eval x = .int .i64 z) (y : T) (hv : a.eval v = M.cs y) (hz : I64 z) (hml : m < maxLen)
    (hK : ∀ w2, M.Own w2 b (fun u => if u = z then y else f u) (fun u => if u = z then true else p u) (if p z then m else m + 1) → w.grownBy w2 (some b) → wpList Tryd.prog ops Q rest (a.put o.dst undef) w2) :
    wpList Tryd.prog ops Q (o :: rest) a w := by
  refine wpList_plain hg fun K' hK' => ?_
  obtain ⟨w2, hrun, r1, r2⟩ := hown.put hz hml y
  unfold Oper.wp
  simp [execOp, hop, hm, hx, hv, hrun, Result.andThen]
  exact hK' _ _ (hK w2 r1 r2)
end
end Go.Proofs.YtappgjdnfllblaaDoor
namespace Go.Proofs.YtappgjdnfllblaaDoor
open Go.RowKit Go.IntWalk Go.Maps Go.WideMaps

def hostC (h : Ho) : Value := .agg #[.int .i64 h.1, .int .i64 h.2.1, .bool h.2.2]
def hostD (h : Ho) : DataW Unit := .agg [.lit (.int .i64 h.1), .lit (.int .i64 h.2.1), .lit (.bool h.2.2)]
def guestC (g : Gu) : Value := .agg #[.int .i64 g.1, .int .i64 g.2.1, .int .i64 g.2.2.1, .int .i64 g.2.2.2]
def guestD (g : Gu) : DataW Unit := .agg [.lit (.int .i64 g.1), .lit (.int .i64 g.2.1), .lit (.int .i64 g.2.2.1), .lit (.int .i64 g.2.2.2)]
theorem litV_int {v : Value} {n : Int} (h : litV v = some (.int .i64 n)) : v = .int .i64 n := by
  cases v <;> simp [litV] at h
  obtain ⟨rfl, rfl⟩ := h; rfl
theorem litV_bool {v : Value} {b : Bool} (h : litV v = some (.bool b)) : v = .bool b := by
  cases v <;> simp [litV] at h
  subst h; rfl
theorem lits_inj : ∀ (a b : List Lit), a.map (DataW.lit (H := Unit)) = b.map .lit → a = b
  | [], [], _ => rfl
  | [], _ :: _, h => by simp at h
  | _ :: _, [], h => by simp at h
  | x :: a, y :: b, h => by
    simp only [List.map_cons, List.cons.injEq, DataW.lit.injEq] at h
    rw [h.1, lits_inj a b h.2]
theorem aggR_inv {v : Value} {ds : List Lit} {ps : List MemPlace} (h : aggR v = some (.agg (ds.map .lit), ps)) : ∃ cs : Array Value, v = .agg cs ∧ cs.toList.mapM litV = some ds := by
  cases v with
  | agg cs =>
    refine ⟨cs, rfl, ?_⟩
    unfold aggR at h
    cases hm : cs.toList.mapM litV with
    | none => simp [hm] at h
    | some ls =>
      simp only [hm, Option.map_some, Option.some.injEq, Prod.mk.injEq, DataW.agg.injEq] at h
      rw [lits_inj _ _ h.1]
  | _ => simp [aggR] at h
theorem mapL_cons {x : Value} {l : List Value} {d : Lit} {ds : List Lit} (h : (x :: l).mapM litV = some (d :: ds)) : litV x = some d ∧ l.mapM litV = some ds := by
  rw [List.mapM_cons] at h
  cases hx : litV x with
  | none => simp [hx] at h
  | some y =>
    cases hl : l.mapM litV with
    | none => simp [hx, hl] at h
    | some ys =>
      simp [hx, hl] at h
      rw [h.1, h.2]; exact ⟨rfl, rfl⟩
theorem mapL_nil {l : List Value} (h : l.mapM litV = some []) : l = [] := by
  cases l with
  | nil => rfl
  | cons x l =>
    rw [List.mapM_cons] at h
    cases hx : litV x with
    | none => simp [hx] at h
    | some y =>
      cases hl : l.mapM litV with
      | none => simp [hx, hl] at h
      | some ys => simp [hx, hl] at h
theorem mapL_uncons {l : List Value} {d : Lit} {ds : List Lit} (h : l.mapM litV = some (d :: ds)) : ∃ x l', l = x :: l' ∧ litV x = some d ∧ l'.mapM litV = some ds := by
  cases l with
  | nil => simp at h
  | cons x l => exact ⟨x, l, rfl, mapL_cons h⟩
theorem hostC_inj (v : Value) (x : Ho) (ps : List MemPlace) (h : aggR v = some (hostD x, ps)) : v = hostC x := by
  obtain ⟨⟨l⟩, rfl, h1⟩ := aggR_inv (ds := [.int .i64 x.1, .int .i64 x.2.1, .bool x.2.2]) h
  clear h
  have h : l.mapM litV = _ := h1
  clear h1
  obtain ⟨a, l, rfl, ha, h⟩ := mapL_uncons h
  obtain ⟨b, l, rfl, hb, h⟩ := mapL_uncons h
  obtain ⟨c, l, rfl, hc, h⟩ := mapL_uncons h
  rw [mapL_nil h, litV_int ha, litV_int hb, litV_bool hc]
  rfl
theorem guestC_inj (v : Value) (x : Gu) (ps : List MemPlace) (h : aggR v = some (guestD x, ps)) : v = guestC x := by
  obtain ⟨⟨l⟩, rfl, h1⟩ := aggR_inv (ds := [.int .i64 x.1, .int .i64 x.2.1, .int .i64 x.2.2.1, .int .i64 x.2.2.2]) h
  clear h
  have h : l.mapM litV = _ := h1
  clear h1
  obtain ⟨a, l, rfl, ha, h⟩ := mapL_uncons h
  obtain ⟨b, l, rfl, hb, h⟩ := mapL_uncons h
  obtain ⟨c, l, rfl, hc, h⟩ := mapL_uncons h
  obtain ⟨d, l, rfl, hd, h⟩ := mapL_uncons h
  rw [mapL_nil h, litV_int ha, litV_int hb, litV_int hc, litV_int hd]
  rfl
def hostK : MK Ho where
  e := 85
  t := 80
  cs := hostC
  dat := hostD
  zero := (0, 0, false)
  und := Tryd.underlying80
  zv := fun w => by kernel_rfl
  rd := fun _ => rfl
  inj := hostC_inj
def guestK : MK Gu where
  e := 87
  t := 81
  cs := guestC
  dat := guestD
  zero := (0, 0, 0, 0)
  und := Tryd.underlying81
  zv := fun w => by kernel_rfl
  rd := fun _ => rfl
  inj := guestC_inj
/-- What a desk knows. -/
structure LDk where
  me : Int
  home : List Int
  hs : Int → Ho
  gs : Int → Gu
/-- There is such a zone, and it is at home here, or not. -/
def LDk.hp (d : LDk) (z : Int) : Bool := decide (0 ≤ z ∧ z < d.home.length ∧ d.home.getD z.toNat 0 = d.me)
def LDk.gp (d : LDk) (z : Int) : Bool := decide (0 ≤ z ∧ z < d.home.length ∧ d.home.getD z.toNat 0 ≠ d.me)
def HoB (h : Ho) : Prop := (-4398046511104 ≤ h.1 ∧ h.1 ≤ 4398046511104) ∧ (-4398046511104 ≤ h.2.1 ∧ h.2.1 ≤ 4398046511104)
def GuB (g : Gu) : Prop := (-4398046511104 ≤ g.1 ∧ g.1 ≤ 4398046511104) ∧ (-4398046511104 ≤ g.2.1 ∧ g.2.1 ≤ 4398046511104) ∧ (-4398046511104 ≤ g.2.2.1 ∧ g.2.2.1 ≤ 4398046511104) ∧ (-4398046511104 ≤ g.2.2.2 ∧ g.2.2.2 ≤ 4398046511104)
/-- What holds of each desk. -/
structure LDk.Ok (d : LDk) : Prop where
  me : d.me = 0 ∨ d.me = 1
  hm : ∀ x ∈ d.home, x = 0 ∨ x = 1
  len : d.home.length ≤ 64
  hh : ∀ z, d.hp z = false → d.hs z = (0, 0, false)
  gg : ∀ z, d.gp z = false → d.gs z = (0, 0, 0, 0)
  hb : ∀ z, HoB (d.hs z)
  gb : ∀ z, GuB (d.gs z)
/-- Block b is a desk. -/
structure Ld (w : World) (base b : Nat) (v : Value) (mh mg : Nat) (d : LDk) : Prop where
  k : Blk w b 83 #[.int .i64 d.me, v, .map (some mh), .map (some mg)]
  r : OwnI w base v d.home
  h : hostK.Own w mh d.hs d.hp d.home.length
  g : guestK.Own w mg d.gs d.gp d.home.length
  ha : base ≤ mh
  ga : base ≤ mg
  ba : base ≤ b
  ne : mh ≠ mg
theorem Ld.below {w w' : World} {base b : Nat} {v : Value} {mh mg : Nat} {d : LDk} (h : Ld w base b v mh mg d) (hb : Below w.heap.size w w') : Ld w' base b v mh mg d :=
  ⟨h.k.below hb h.k.lt, h.r.below hb, h.h.below hb, h.g.below hb, h.ha, h.ga, h.ba, h.ne⟩
theorem Ld.at_ {w : World} {base b : Nat} {v : Value} {mh mg : Nat} {d : LDk} (h : Ld w base b v mh mg d) : w.cell? ⟨b, 0, none⟩ = some (.int .i64 d.me) ∧ w.cell? ⟨b, 1, none⟩ = some v ∧ w.cell? ⟨b, 2, none⟩ = some (.map (some mh)) ∧ w.cell? ⟨b, 3, none⟩ = some (.map (some mg)) :=
  ⟨h.k.cell 0, h.k.cell 1, h.k.cell 2, h.k.cell 3⟩
/-- What Holds says. -/
def lHolds (d : LDk) (z now : Int) : Bool := if d.hp z then decide ((d.hs z).1 ≤ now) else d.gp z && decide (now + 2 < (d.gs z).1)
/-- What Ends says. -/
def lEnds (d : LDk) (z : Int) : Int := (d.hs z).1 + (d.gs z).1
section
variable {w : World} {base b : Nat} {v : Value} {mh mg : Nat} {d : LDk}
theorem Ld.look (h : Ld w base b v mh mg d) {z : Int} (hz : I64 z) :
    (Instr.lookup 80 (.map (some mh)) (.int .i64 z) false).run Tryd.prog w = .ok (.agg #[.int .i64 (d.hs z).1, .int .i64 (d.hs z).2.1, .bool (d.hs z).2.2]) w ∧
    (Instr.lookup 81 (.map (some mg)) (.int .i64 z) false).run Tryd.prog w = .ok (.agg #[.int .i64 (d.gs z).1, .int .i64 (d.gs z).2.1, .int .i64 (d.gs z).2.2.1, .int .i64 (d.gs z).2.2.2]) w := ⟨h.h.look hz, h.g.look hz⟩
theorem Ld.look2 (h : Ld w base b v mh mg d) {z : Int} (hz : I64 z) :
    (Instr.lookup 80 (.map (some mh)) (.int .i64 z) true).run Tryd.prog w = .ok (.tuple #[.agg #[.int .i64 (d.hs z).1, .int .i64 (d.hs z).2.1, .bool (d.hs z).2.2], .bool (d.hp z)]) w ∧
    (Instr.lookup 81 (.map (some mg)) (.int .i64 z) true).run Tryd.prog w = .ok (.tuple #[.agg #[.int .i64 (d.gs z).1, .int .i64 (d.gs z).2.1, .int .i64 (d.gs z).2.2.1, .int .i64 (d.gs z).2.2.2], .bool (d.gp z)]) w := ⟨h.h.look2 hz, h.g.look2 hz⟩
set_option maxRecDepth 100000 in
set_option maxHeartbeats 400000 in
theorem lme_any (h : Ld w base b v mh mg d) : Calls Tryd.prog 27 #[.pointer (some ⟨b, 0, none⟩)] w fun e w' => e = .returned (.int .i64 d.me) ∧ w = w' := by
  obtain ⟨d0, d1, d2, d3⟩ := h.at_
  go_enter Tryd.func27, Tryd.ntmps27
  go_wp2_with fail
  go_ret
  exact ⟨rfl, rfl⟩
set_option maxRecDepth 100000 in
set_option maxHeartbeats 400000 in
theorem lzones_any (h : Ld w base b v mh mg d) : Calls Tryd.prog 28 #[.pointer (some ⟨b, 0, none⟩)] w fun e w' => e = .returned (.int .i64 d.home.length) ∧ w = w' := by
  obtain ⟨A, c, rfl, _⟩ := h.r.form
  obtain ⟨d0, d1, d2, d3⟩ := h.at_
  go_enter Tryd.func28, Tryd.ntmps28
  go_wp2_with fail
  go_ret
  exact ⟨rfl, rfl⟩
end
end Go.Proofs.YtappgjdnfllblaaDoor
namespace Go.Proofs.YtappgjdnfllblaaDoor
open Go.RowKit Go.ChangeShapes Go.WideShapes Go.Deep

section
variable {F : Fence} {n : Nat} {P : Program} {ops : Array Oper} {Q : Exit → Act → World → Prop} {md : Region.Mode} {S : World → Prop} {late : List Nat}

/-- The operation is not wanted. -/
def SkipsG (ops : Array Oper) (o : Oper) (a : Act) : Prop := Region.wanted o (yielded ops a.tmps) = false
theorem SkipsG.op (hF : ∀ f, F.fn f) {i : Nat} {o : Oper} {a : Act} (hi : ops[i]? = some o) (hy : SkipsG ops o a) {K : Act → World → Prop} {w : World} (h : K (a.put o.dst undef) w) : wpOpIn F n P ops Q i K a w := by
  unfold wpOpIn
  simp only [hi]
  rw [if_neg (by rw [show Region.wanted o (yielded ops a.tmps) = false from hy]; simp)]
  exact ⟨fun f _ => hF f, h⟩
theorem wpOpIn_putK (hF : ∀ f, F.fn f) {i j : Nat} {oi oj : Oper} (hj : ops[j]? = some oj) (hap : oi.apart ops oj = true) (hsj : ∀ cs b, oj.op ≠ .select cs b) (hdj : ∀ c, oj.op ≠ .defer c)
    (hQ : ∀ c a w, Q (.panic c) (a.put oi.dst undef) w → Q (.panic c) a w) {K : Act → World → Prop} {a : Act} {w : World} (hy : SkipsG ops oi a) (h : wpOpIn F n P ops Q j K (a.put oi.dst undef) w) :
    wpOpIn F n P ops Q j (fun a' w' => SkipsG ops oi a' ∧ K (a'.put oi.dst undef) w') a w := by
  obtain ⟨h1, h2, h3⟩ := Oper.apart_spec hap
  have keep : ∀ (a : Act), SkipsG ops oi a → ∀ u, SkipsG ops oi (a.put oj.dst u) := fun a hy u => (wanted_put oi a oj.dst u h3).trans hy
  unfold wpOpIn at *
  simp only [hj] at *
  rw [wanted_put oj a oi.dst undef h1] at h
  split
  · rename_i hw
    simp only [hw, if_true] at h
    unfold Oper.wpIn at *
    refine ⟨fun f _ => hF f, ?_⟩
    have h := h.2
    rw [Oper.semAt_plain F _ _ hdj, execOp_put oj hsj a oi.dst undef h1] at h
    rw [Oper.semAt_plain F _ _ hdj]
    generalize (execOp a.eval oj).run P w = r at *
    cases r with
    | ok x w' =>
      cases x <;> simp only [Oper.uponIn] at h ⊢
      case value u => exact ⟨keep a hy u, by rw [← Act.put_comm a undef u h2]; exact h⟩
      case skip => exact ⟨keep a hy _, by rw [← Act.put_comm a undef undef h2]; exact h⟩
      case defer d =>
        refine ⟨keep { a with defers := d :: a.defers } hy _, ?_⟩
        rw [← Act.put_comm _ undef undef h2, ← Act.put_defers]
        exact h
      case enter f args =>
        refine ⟨h.1, CallsIn.mono h.2 fun e w'' he => ?_⟩
        cases e with
        | returned u => exact ⟨keep a hy u, by rw [← Act.put_comm a undef u h2]; exact he⟩
        | panicked c => exact hQ _ _ _ he
        | outgrown => exact he
      case row row args => exact ⟨h.1, RowsIn.mono h.2 fun u w'' he => ⟨keep a hy u, by rw [← Act.put_comm a undef u h2]; exact he⟩⟩
      case round l f tmps assign body =>
        refine ⟨h.1, RoundIn.mono h.2 fun e w'' he => ?_⟩
        cases e with
        | returned u => exact ⟨keep a hy u, by rw [← Act.put_comm a undef u h2]; exact he⟩
        | panicked c => exact hQ _ _ _ he
        | outgrown => exact he
    | halt x w' =>
      cases x <;> simp only [Oper.uponIn] at h ⊢
      case panic u => exact hQ _ _ _ h
  · rename_i hw
    simp only [hw] at h
    exact ⟨fun f _ => hF f, keep a hy _, by rw [← Act.put_comm a undef undef h2]; exact h.2⟩
theorem wpAnyG_skipF {i : Nat} {oi : Oper} (hF : ∀ f, F.fn f) (hi : ops[i]? = some oi) (hsel : ∀ (j : Nat) (o : Oper) cs b, ops[j]? = some o → o.op ≠ .select cs b) (hdef : ∀ (j : Nat) (o : Oper) c, ops[j]? = some o → o.op ≠ .defer c)
    (hQ : ∀ c a w, Q (.panic c) (a.put oi.dst undef) w → Q (.panic c) a w) (hni : late.contains i = false) :
    ∀ (fuel : Nat) (listed : Array Bool) (a : Act) (w : World),
      (∀ j oj, ops[j]? = some oj → j ≠ i → listed.getD j true = false → (∀ e ∈ oj.after, Region.binds md e = true → e.on ≠ i) → oi.apart ops oj = true) →
      i ∈ Region.ready md ops listed → SkipsG ops oi a → (lateFree late listed = true → S w) →
      wpAnyS F n P md ops Q S late fuel (listed.setIfInBounds i true) (a.put oi.dst undef) w → wpAnyS F n P md ops Q S late (fuel + 1) listed a w := by
  intro fuel
  induction fuel with
  | zero =>
    intro listed a w _ hr hy hw H
    refine ⟨fun h => (by rw [h] at hr; cases hr), fun j hj => ?_⟩
    by_cases hji : j = i
    · subst hji; exact hy.op hF hi ⟨fun h => hw (by rwa [late_set hni] at h), H⟩
    · have := ready_mono hj hji
      rw [H.1] at this
      cases this
  | succ fuel ih =>
    intro listed a w hfree hr hy hw H
    refine ⟨fun h => (by rw [h] at hr; cases hr), fun j hj => ?_⟩
    by_cases hji : j = i
    · subst hji; exact hy.op hF hi ⟨fun h => hw (by rwa [late_set hni] at h), H⟩
    · have h1 := H.2 j (ready_mono hj hji)
      obtain ⟨hjun, oj, hoj, hall⟩ := mem_ready.1 hj
      have hnot : ∀ e ∈ oj.after, Region.binds md e = true → e.on ≠ i := fun e he hb heq => by
        have h1 := hall e he hb
        rw [heq, ready_not hr] at h1
        cases h1
      have h2 := wpOpIn_putK (i := i) hF hoj (hfree j oj hoj hji hjun hnot) (fun cs b => hsel j oj cs b hoj) (fun c => hdef j oj c hoj) hQ hy h1
      have hfree' : ∀ k ok, ops[k]? = some ok → k ≠ i → (listed.setIfInBounds j true).getD k true = false →
          (∀ e ∈ ok.after, Region.binds md e = true → e.on ≠ i) → oi.apart ops ok = true := fun k ok hk hki hun hno => by
        refine hfree k ok hk hki ?_ hno
        by_cases hjk : j = k
        · subst hjk; exact hjun
        · rw [getD_set_ne true hjk] at hun; exact hun
      have hcm : (listed.setIfInBounds i true).setIfInBounds j true = (listed.setIfInBounds j true).setIfInBounds i true := Array.setIfInBounds_comm _ _ (Ne.symm hji)
      refine wpOpIn_mono (fun a' w' h3 => ?_) h2
      have hS : lateFree late (listed.setIfInBounds j true) = true → S w' := fun h => h3.2.1 (by rw [hcm, late_set hni]; exact h)
      refine ⟨hS, ih (listed.setIfInBounds j true) a' w' hfree' (ready_mono hr (Ne.symm hji)) h3.1 hS ?_⟩
      rw [← hcm]
      exact h3.2.2
/-- An operation that its guard forbids is passed over first. -/
theorem wpAnyG_skip (i : Nat) {oi : Oper} {fuel : Nat} {listed : Array Bool} {a : Act} {w : World} (hF : ∀ f, F.fn f) (hi : ops[i]? = some oi) (ht : takeB md ops late listed true i = true)
    (hQ : ∀ c a (d : Tmp) v w, Q (.panic c) (a.put (some d) v) w → Q (.panic c) a w) (hy : Region.wanted oi (yielded ops a.tmps) = false) (hw : S w)
    (h : wpAnyS F n P md ops Q S late fuel (listed.setIfInBounds i true) (a.put oi.dst undef) w) : wpAnyS F n P md ops Q S late (fuel + 1) listed a w := by
  simp only [takeB, Bool.and_eq_true] at ht
  obtain ⟨⟨⟨⟨⟨h1, h2⟩, h3⟩, h4⟩, h6⟩, h5⟩ := ht
  obtain ⟨p1, p2⟩ := plainB_spec h4
  exact wpAnyG_skipF hF hi p1 p2 (fun c a w h => by
    cases hd : oi.dst with
    | none => rw [hd] at h; exact h
    | some d => rw [hd] at h; exact hQ c a d _ w h) (by simpa using h6) fuel listed a w (Region.free_spec hi h2) (by simpa using h1) hy (fun _ => hw) h
end
end Go.Proofs.YtappgjdnfllblaaDoor
namespace Go.Proofs.YtappgjdnfllblaaDoor
open Go.RowKit Go.IntWalk Go.Maps Go.WideMaps
/-- What as says: 4 no such zone, 7 the wrong side, 0 fine. -/
def lAs (d : LDk) (z : Int) (home : Bool) : Int := if z < 0 ∨ (d.home.length : Int) ≤ z then 4 else if (decide (d.home.getD z.toNat 0 = d.me)) ≠ home then 7 else 0
section
variable {w : World} {base b : Nat} {v : Value} {mh mg : Nat} {d : LDk}
theorem fieldHost0 (W : World) (x y z : Value) : (Instr.field 85 (.agg #[x, y, z]) 0).run Tryd.prog W = .ok x W := by kernel_rfl
theorem fieldGuest0 (W : World) (x y z u : Value) : (Instr.field 87 (.agg #[x, y, z, u]) 0).run Tryd.prog W = .ok x W := by kernel_rfl
set_option maxRecDepth 100000 in
set_option maxHeartbeats 1000000 in
theorem ends_any (h : Ld w base b v mh mg d) (ok : d.Ok) {z : Int} (hz : I64 z) : Calls Tryd.prog 31 #[.pointer (some ⟨b, 0, none⟩), .int .i64 z] w fun e w' => e = .returned (.int .i64 (lEnds d z)) ∧ Below w.heap.size w w' := by
  obtain ⟨⟨x1, x2⟩, x3, x4⟩ := ok.hb z
  obtain ⟨⟨y1, y2⟩, y3, y4⟩ := ok.gb z
  clear x3 x4 y3 y4
  have hw : wrap64 ((d.hs z).1 + (d.gs z).1) = (d.hs z).1 + (d.gs z).1 := wrap64_in _ (by omega)
  clear x1 x2 y1 y2
  have HSF := hid (fun (wq : World) (hq : Below w.heap.size w wq) => And.intro (h.below hq).at_ ((h.below hq).look hz))
  have BD := hid ((Below.refl w.heap.size w).drew)
  clear hz ok h
  have f0 := fieldHost0
  have f1 := fieldGuest0
  go_enter Tryd.func31, Tryd.ntmps31
  go_upto_region 1 with fail
  refine wpIn_wide.1 (wpIn_region_S (n := 0) (fun wq => Below w.heap.size w wq) [] (by kernel_rfl) BD.out (fun hHeld => ?_))
  generalize w.drew = wd at *
  refine wpAnyS_pure 0 (v := ?_) (fun _ => trivial) (by simp only [List.getElem?_toArray, List.getElem?_cons_succ, List.getElem?_cons_zero]; rfl) (by kernel_rfl) (fun _ _ _ _ _ h => h) ⟨rfl, (by intro c h; cases h), ?_⟩ hHeld ?_
  rotate_left
  focus (intro wS hSw; (try replace hSw := HSF.out wS hSw); (try dsimp only at hSw); go_simp; (try with_reducible rfl))
  (try simp only [Act.put, List.setIfInBounds_toArray, List.set_cons_zero, List.set_cons_succ])
  refine wpAnyS_take 1 (v := ?_) (fun _ => trivial) (by simp only [List.getElem?_toArray, List.getElem?_cons_succ, List.getElem?_cons_zero]; rfl) (by kernel_rfl) (fun _ _ _ _ _ h => h) ⟨rfl, (by intro c h; cases h), ?_⟩ hHeld ?_
  rotate_left
  focus (intro wS hSw; (try replace hSw := HSF.out wS hSw); (try dsimp only at hSw); go_simp; (try with_reducible rfl))
  (try simp only [Act.put, List.setIfInBounds_toArray, List.set_cons_zero, List.set_cons_succ])
  refine wpAnyS_pure 2 (v := ?_) (fun _ => trivial) (by simp only [List.getElem?_toArray, List.getElem?_cons_succ, List.getElem?_cons_zero]; rfl) (by kernel_rfl) (fun _ _ _ _ _ h => h) ⟨rfl, (by intro c h; cases h), ?_⟩ hHeld ?_
  rotate_left
  focus (intro wS hSw; (try replace hSw := HSF.out wS hSw); (try dsimp only at hSw); go_simp; (try with_reducible rfl))
  (try simp only [Act.put, List.setIfInBounds_toArray, List.set_cons_zero, List.set_cons_succ])
  refine wpAnyS_take 3 (v := ?_) (fun _ => trivial) (by simp only [List.getElem?_toArray, List.getElem?_cons_succ, List.getElem?_cons_zero]; rfl) (by kernel_rfl) (fun _ _ _ _ _ h => h) ⟨rfl, (by intro c h; cases h), ?_⟩ hHeld ?_
  rotate_left
  focus (intro wS hSw; (try replace hSw := HSF.out wS hSw); (try dsimp only at hSw); go_simp; (try with_reducible rfl))
  (try simp only [Act.put, List.setIfInBounds_toArray, List.set_cons_zero, List.set_cons_succ])
  refine wpAnyS_pure 4 (v := ?_) (fun _ => trivial) (by simp only [List.getElem?_toArray, List.getElem?_cons_succ, List.getElem?_cons_zero]; rfl) (by kernel_rfl) (fun _ _ _ _ _ h => h) ⟨rfl, (by intro c h; cases h), ?_⟩ hHeld ?_
  rotate_left
  focus (intro wS hSw; (try replace hSw := HSF.out wS hSw); (try dsimp only at hSw); go_simp; (try with_reducible rfl))
  (try simp only [Act.put, List.setIfInBounds_toArray, List.set_cons_zero, List.set_cons_succ])
  refine wpAnyS_take 5 (v := ?_) (fun _ => trivial) (by simp only [List.getElem?_toArray, List.getElem?_cons_succ, List.getElem?_cons_zero]; rfl) (by kernel_rfl) (fun _ _ _ _ _ h => h) ⟨rfl, (by intro c h; cases h), ?_⟩ hHeld ?_
  rotate_left
  focus (intro wS hSw; (try replace hSw := HSF.out wS hSw); (try dsimp only at hSw); go_simp; (try with_reducible rfl))
  (try simp only [Act.put, List.setIfInBounds_toArray, List.set_cons_zero, List.set_cons_succ])
  refine wpAnyS_pure 6 (v := ?_) (fun _ => trivial) (by simp only [List.getElem?_toArray, List.getElem?_cons_succ, List.getElem?_cons_zero]; rfl) (by kernel_rfl) (fun _ _ _ _ _ h => h) ⟨rfl, (by intro c h; cases h), ?_⟩ hHeld ?_
  rotate_left
  focus (intro wS hSw; (try replace hSw := HSF.out wS hSw); (try dsimp only at hSw); go_simp; (try with_reducible rfl))
  (try simp only [Act.put, List.setIfInBounds_toArray, List.set_cons_zero, List.set_cons_succ])
  refine wpAnyS_pure 7 (v := ?_) (fun _ => trivial) (by simp only [List.getElem?_toArray, List.getElem?_cons_succ, List.getElem?_cons_zero]; rfl) (by kernel_rfl) (fun _ _ _ _ _ h => h) ⟨rfl, (by intro c h; cases h), ?_⟩ hHeld ?_
  rotate_left
  focus (intro wS hSw; (try replace hSw := HSF.out wS hSw); (try dsimp only at hSw); go_simp; (try with_reducible rfl))
  (try simp only [Act.put, List.setIfInBounds_toArray, List.set_cons_zero, List.set_cons_succ])
  refine wpAnyS_take 8 (v := ?_) (fun _ => trivial) (by simp only [List.getElem?_toArray, List.getElem?_cons_succ, List.getElem?_cons_zero]; rfl) (by kernel_rfl) (fun _ _ _ _ _ h => h) ⟨rfl, (by intro c h; cases h), ?_⟩ hHeld ?_
  rotate_left
  focus (intro wS hSw; (try replace hSw := HSF.out wS hSw); (try dsimp only at hSw); go_simp; (try with_reducible rfl))
  (try simp only [Act.put, List.setIfInBounds_toArray, List.set_cons_zero, List.set_cons_succ])
  refine wpAnyS_pure 9 (v := ?_) (fun _ => trivial) (by simp only [List.getElem?_toArray, List.getElem?_cons_succ, List.getElem?_cons_zero]; rfl) (by kernel_rfl) (fun _ _ _ _ _ h => h) ⟨rfl, (by intro c h; cases h), ?_⟩ hHeld ?_
  rotate_left
  focus (intro wS hSw; (try replace hSw := HSF.out wS hSw); (try dsimp only at hSw); go_simp; (try with_reducible rfl))
  (try simp only [Act.put, List.setIfInBounds_toArray, List.set_cons_zero, List.set_cons_succ])
  refine wpAnyS_take 10 (v := ?_) (fun _ => trivial) (by simp only [List.getElem?_toArray, List.getElem?_cons_succ, List.getElem?_cons_zero]; rfl) (by kernel_rfl) (fun _ _ _ _ _ h => h) ⟨rfl, (by intro c h; cases h), ?_⟩ hHeld ?_
  rotate_left
  focus (intro wS hSw; (try replace hSw := HSF.out wS hSw); (try dsimp only at hSw); go_simp; (try with_reducible rfl))
  (try simp only [Act.put, List.setIfInBounds_toArray, List.set_cons_zero, List.set_cons_succ])
  refine wpAnyS_pure 11 (v := ?_) (fun _ => trivial) (by simp only [List.getElem?_toArray, List.getElem?_cons_succ, List.getElem?_cons_zero]; rfl) (by kernel_rfl) (fun _ _ _ _ _ h => h) ⟨rfl, (by intro c h; cases h), ?_⟩ hHeld ?_
  rotate_left
  focus (intro wS hSw; (try replace hSw := HSF.out wS hSw); (try dsimp only at hSw); go_simp; (try with_reducible rfl))
  (try simp only [Act.put, List.setIfInBounds_toArray, List.set_cons_zero, List.set_cons_succ])
  refine wpAnyS_take 12 (v := ?_) (fun _ => trivial) (by simp only [List.getElem?_toArray, List.getElem?_cons_succ, List.getElem?_cons_zero]; rfl) (by kernel_rfl) (fun _ _ _ _ _ h => h) ⟨rfl, (by intro c h; cases h), ?_⟩ hHeld ?_
  rotate_left
  focus (intro wS hSw; (try replace hSw := HSF.out wS hSw); (try dsimp only at hSw); go_simp; (try with_reducible rfl))
  (try simp only [Act.put, List.setIfInBounds_toArray, List.set_cons_zero, List.set_cons_succ])
  refine wpAnyS_pure 13 (v := ?_) (fun _ => trivial) (by simp only [List.getElem?_toArray, List.getElem?_cons_succ, List.getElem?_cons_zero]; rfl) (by kernel_rfl) (fun _ _ _ _ _ h => h) ⟨rfl, (by intro c h; cases h), ?_⟩ hHeld ?_
  rotate_left
  focus (intro wS hSw; (try replace hSw := HSF.out wS hSw); (try dsimp only at hSw); go_simp; (try with_reducible rfl))
  (try simp only [Act.put, List.setIfInBounds_toArray, List.set_cons_zero, List.set_cons_succ])
  refine wpAnyS_pure 14 (v := ?_) (fun _ => trivial) (by simp only [List.getElem?_toArray, List.getElem?_cons_succ, List.getElem?_cons_zero]; rfl) (by kernel_rfl) (fun _ _ _ _ _ h => h) ⟨rfl, (by intro c h; cases h), ?_⟩ hHeld ?_
  rotate_left
  focus (intro wS hSw; (try replace hSw := HSF.out wS hSw); (try dsimp only at hSw); go_simp; (try with_reducible rfl))
  (try simp only [Act.put, List.setIfInBounds_toArray, List.set_cons_zero, List.set_cons_succ])
  refine wpAnyS_pure 15 (v := ?_) (fun _ => trivial) (by simp only [List.getElem?_toArray, List.getElem?_cons_succ, List.getElem?_cons_zero]; rfl) (by kernel_rfl) (fun _ _ _ _ _ h => h) ⟨rfl, (by intro c h; cases h), ?_⟩ hHeld ?_
  rotate_left
  focus (intro wS hSw; (try replace hSw := HSF.out wS hSw); (try dsimp only at hSw); go_simp; (try with_reducible rfl))
  (try simp only [Act.put, List.setIfInBounds_toArray, List.set_cons_zero, List.set_cons_succ])
  refine wpAnyS_done (by kernel_rfl) ?_
  clear hHeld HSF
  go_wp2_with fail
  go_ret
  exact ⟨ret_int (by rw [i64_left]; exact hw), BD.out⟩
set_option maxRecDepth 100000 in
set_option maxHeartbeats 1000000 in
theorem holds_any (h : Ld w base b v mh mg d) (ok : d.Ok) {z now : Int} (hz : I64 z) (hn : -4398046511104 ≤ now ∧ now ≤ 4398046511104) : Calls Tryd.prog 29 #[.pointer (some ⟨b, 0, none⟩), .int .i64 z, .int .i64 now] w fun e w' => e = .returned (.bool (lHolds d z now)) ∧ Below w.heap.size w w' := by
  obtain ⟨d0, d1, d2, d3⟩ := h.at_
  obtain ⟨q1, -⟩ := h.look2 hz
  obtain ⟨n1, n2⟩ := hn
  have n3 : wrap64 (now + 2) = now + 2 := wrap64_in _ (by omega)
  cases hp : d.hp z with
  | true =>
    rw [hp] at q1
    have HR := hid (show lHolds d z now = decide ((d.hs z).1 ≤ now) by unfold lHolds; rw [hp]; rfl)
    clear hp ok
    go_enter Tryd.func29, Tryd.ntmps29
    go_wp2_with fail
    go_ret
    exact ⟨ret_bool HR.out.symm, by (repeat (first | exact Below.refl _ _ | assumption | refine below_drewN ?_ _ | refine Below.drew ?_ | refine Below.alloc ?_ (by (try simp); (try omega)) _ | refine Below.setCell ?_ (by (try simp); (try omega)) _))⟩
  | false =>
    rw [hp] at q1
    have HR := hid (show lHolds d z now = (d.gp z && decide (now + 2 < (d.gs z).1)) by unfold lHolds; rw [hp]; rfl)
    have HL := hid (fun W (hW : Below w.heap.size w W) => And.intro (h.below hW).at_ ((h.below hW).look2 hz).2)
    clear hp ok h
    go_enter Tryd.func29, Tryd.ntmps29
    go_upto_region 4 with fail
    have B4 := hid (show Below w.heap.size w (w.alloc (Obj.cells #[.int .i64 (d.hs z).1, .int .i64 (d.hs z).2.1, .bool (d.hs z).2.2] 85)) by (repeat (first | exact Below.refl _ _ | assumption | refine below_drewN ?_ _ | refine Below.drew ?_ | refine Below.alloc ?_ (by (try simp); (try omega)) _ | refine Below.setCell ?_ (by (try simp); (try omega)) _)))
    obtain ⟨⟨e0, e1, e2, e3⟩, r2⟩ := HL.out _ B4.out
    clear q1 d0 d1 d2 d3 HL
    generalize (w.alloc (Obj.cells #[.int .i64 (d.hs z).1, .int .i64 (d.hs z).2.1, .bool (d.hs z).2.2] 85)) = w4 at *
    go_wp2_with fail
    all_goals (go_ret; exact ⟨ret_bool (by rw [HR.out]; simp [*]), B4.out.alloc B4.out.size _⟩)
set_option maxRecDepth 100000 in
set_option maxHeartbeats 1000000 in
theorem as_any (h : Ld w base b v mh mg d) (ok : d.Ok) {z : Int} (home : Bool) : Calls Tryd.prog 65 #[.pointer (some ⟨b, 0, none⟩), .int .i64 z, .bool home] w fun e w' => e = .returned (.int .i64 (lAs d z home)) ∧ Below w.heap.size w w' := by
  obtain ⟨d0, d1, d2, d3⟩ := h.at_
  obtain ⟨A, c, rfl, hA⟩ := h.r.form
  by_cases h0 : z < 0
  · have HR := hid (show lAs d z home = 4 by unfold lAs; rw [if_pos (Or.inl h0)])
    go_enter Tryd.func65, Tryd.ntmps65
    go_wp2_with fail
    go_ret
    exact ⟨ret_int HR.out.symm, Below.refl _ _⟩
  by_cases h1 : (d.home.length : Int) ≤ z
  · have HR := hid (show lAs d z home = 4 by unfold lAs; rw [if_pos (Or.inr h1)])
    go_enter Tryd.func65, Tryd.ntmps65
    go_wp2_with fail
    go_ret
    exact ⟨ret_int HR.out.symm, Below.refl _ _⟩
  obtain ⟨k, rfl⟩ : ∃ k : Nat, z = k := ⟨z.toNat, by omega⟩
  have hk : k < d.home.length := by omega
  have HR := hid (show lAs d k home = if decide (d.home[k] = d.me) ≠ home then 7 else 0 by
    unfold lAs
    rw [if_neg (by omega)]
    simp [List.getD, List.getElem?_eq_getElem hk])
  obtain ⟨g, rfl, hgb, hgl, hgc, -⟩ := hA (by intro e; rw [e] at hk; simp at hk)
  have HSF := hid (fun (wq : World) (hq : Below w.heap.size w wq) => And.intro (h.below hq).at_ ((bcell hq g k hgl).trans (hgc k hk)))
  have BD := hid ((Below.refl w.heap.size w).drew)
  clear h0 h ok hgc hA hgb
  go_enter Tryd.func65, Tryd.ntmps65
  go_upto_region 3 with fail
  clear d0 d1 d2 d3
  refine wpIn_wide.1 (wpIn_region_S (n := 0) (fun wq => Below w.heap.size w wq) [] (by kernel_rfl) BD.out (fun hHeld => ?_))
  generalize w.drew = wd at *
  refine wpAnyS_pure 0 (v := ?_) (fun _ => trivial) (by simp only [List.getElem?_toArray, List.getElem?_cons_succ, List.getElem?_cons_zero]; rfl) (by kernel_rfl) (fun _ _ _ _ _ h => h) ⟨rfl, (by intro c h; cases h), ?_⟩ hHeld ?_
  rotate_left
  focus (intro wS hSw; (try replace hSw := HSF.out wS hSw); (try dsimp only at hSw); go_simp; (try with_reducible rfl))
  (try simp only [Act.put, List.setIfInBounds_toArray, List.set_cons_zero, List.set_cons_succ])
  refine wpAnyS_take 1 (v := ?_) (fun _ => trivial) (by simp only [List.getElem?_toArray, List.getElem?_cons_succ, List.getElem?_cons_zero]; rfl) (by kernel_rfl) (fun _ _ _ _ _ h => h) ⟨rfl, (by intro c h; cases h), ?_⟩ hHeld ?_
  rotate_left
  focus (intro wS hSw; (try replace hSw := HSF.out wS hSw); (try dsimp only at hSw); go_simp; (try with_reducible rfl))
  (try simp only [Act.put, List.setIfInBounds_toArray, List.set_cons_zero, List.set_cons_succ])
  refine wpAnyS_pure 2 (v := ?_) (fun _ => trivial) (by simp only [List.getElem?_toArray, List.getElem?_cons_succ, List.getElem?_cons_zero]; rfl) (by kernel_rfl) (fun _ _ _ _ _ h => h) ⟨rfl, (by intro c h; cases h), ?_⟩ hHeld ?_
  rotate_left
  focus (intro wS hSw; (try replace hSw := HSF.out wS hSw); (try dsimp only at hSw); go_simp; (try with_reducible rfl))
  (try simp only [Act.put, List.setIfInBounds_toArray, List.set_cons_zero, List.set_cons_succ])
  refine wpAnyS_take 3 (v := ?_) (fun _ => trivial) (by simp only [List.getElem?_toArray, List.getElem?_cons_succ, List.getElem?_cons_zero]; rfl) (by kernel_rfl) (fun _ _ _ _ _ h => h) ⟨rfl, (by intro c h; cases h), ?_⟩ hHeld ?_
  rotate_left
  focus (intro wS hSw; (try replace hSw := HSF.out wS hSw); (try dsimp only at hSw); go_simp; (try with_reducible rfl))
  (try simp only [Act.put, List.setIfInBounds_toArray, List.set_cons_zero, List.set_cons_succ])
  refine wpAnyS_pure 4 (v := ?_) (fun _ => trivial) (by simp only [List.getElem?_toArray, List.getElem?_cons_succ, List.getElem?_cons_zero]; rfl) (by kernel_rfl) (fun _ _ _ _ _ h => h) ⟨rfl, (by intro c h; cases h), ?_⟩ hHeld ?_
  rotate_left
  focus (intro wS hSw; (try replace hSw := HSF.out wS hSw); (try dsimp only at hSw); go_simp; (try with_reducible rfl))
  (try simp only [Act.put, List.setIfInBounds_toArray, List.set_cons_zero, List.set_cons_succ])
  refine wpAnyS_take 5 (v := ?_) (fun _ => trivial) (by simp only [List.getElem?_toArray, List.getElem?_cons_succ, List.getElem?_cons_zero]; rfl) (by kernel_rfl) (fun _ _ _ _ _ h => h) ⟨rfl, (by intro c h; cases h), ?_⟩ hHeld ?_
  rotate_left
  focus (intro wS hSw; (try replace hSw := HSF.out wS hSw); (try dsimp only at hSw); go_simp; (try with_reducible rfl))
  (try simp only [Act.put, List.setIfInBounds_toArray, List.set_cons_zero, List.set_cons_succ])
  refine wpAnyS_take 6 (v := ?_) (fun _ => trivial) (by simp only [List.getElem?_toArray, List.getElem?_cons_succ, List.getElem?_cons_zero]; rfl) (by kernel_rfl) (fun _ _ _ _ _ h => h) ⟨rfl, (by intro c h; cases h), ?_⟩ hHeld ?_
  rotate_left
  focus (intro wS hSw; (try replace hSw := HSF.out wS hSw); (try dsimp only at hSw); go_simp; (try with_reducible rfl))
  (try simp only [Act.put, List.setIfInBounds_toArray, List.set_cons_zero, List.set_cons_succ])
  refine wpAnyS_pure 7 (v := ?_) (fun _ => trivial) (by simp only [List.getElem?_toArray, List.getElem?_cons_succ, List.getElem?_cons_zero]; rfl) (by kernel_rfl) (fun _ _ _ _ _ h => h) ⟨rfl, (by intro c h; cases h), ?_⟩ hHeld ?_
  rotate_left
  focus (intro wS hSw; (try replace hSw := HSF.out wS hSw); (try dsimp only at hSw); go_simp; (try with_reducible rfl))
  (try simp only [Act.put, List.setIfInBounds_toArray, List.set_cons_zero, List.set_cons_succ])
  refine wpAnyS_take 8 (v := ?_) (fun _ => trivial) (by simp only [List.getElem?_toArray, List.getElem?_cons_succ, List.getElem?_cons_zero]; rfl) (by kernel_rfl) (fun _ _ _ _ _ h => h) ⟨rfl, (by intro c h; cases h), ?_⟩ hHeld ?_
  rotate_left
  focus (intro wS hSw; (try replace hSw := HSF.out wS hSw); (try dsimp only at hSw); go_simp; (try with_reducible rfl))
  (try simp only [Act.put, List.setIfInBounds_toArray, List.set_cons_zero, List.set_cons_succ])
  refine wpAnyS_pure 9 (v := ?_) (fun _ => trivial) (by simp only [List.getElem?_toArray, List.getElem?_cons_succ, List.getElem?_cons_zero]; rfl) (by kernel_rfl) (fun _ _ _ _ _ h => h) ⟨rfl, (by intro c h; cases h), ?_⟩ hHeld ?_
  rotate_left
  focus (intro wS hSw; (try replace hSw := HSF.out wS hSw); (try dsimp only at hSw); go_simp; (try with_reducible rfl))
  (try simp only [Act.put, List.setIfInBounds_toArray, List.set_cons_zero, List.set_cons_succ])
  refine wpAnyS_take 10 (v := ?_) (fun _ => trivial) (by simp only [List.getElem?_toArray, List.getElem?_cons_succ, List.getElem?_cons_zero]; rfl) (by kernel_rfl) (fun _ _ _ _ _ h => h) ⟨rfl, (by intro c h; cases h), ?_⟩ hHeld ?_
  rotate_left
  focus (intro wS hSw; (try replace hSw := HSF.out wS hSw); (try dsimp only at hSw); go_simp; (try with_reducible rfl))
  (try simp only [Act.put, List.setIfInBounds_toArray, List.set_cons_zero, List.set_cons_succ])
  refine wpAnyS_pure 11 (v := ?_) (fun _ => trivial) (by simp only [List.getElem?_toArray, List.getElem?_cons_succ, List.getElem?_cons_zero]; rfl) (by kernel_rfl) (fun _ _ _ _ _ h => h) ⟨rfl, (by intro c h; cases h), ?_⟩ hHeld ?_
  rotate_left
  focus (intro wS hSw; (try replace hSw := HSF.out wS hSw); (try dsimp only at hSw); go_simp; (try with_reducible rfl))
  (try simp only [Act.put, List.setIfInBounds_toArray, List.set_cons_zero, List.set_cons_succ])
  refine wpAnyS_pure 12 (v := ?_) (fun _ => trivial) (by simp only [List.getElem?_toArray, List.getElem?_cons_succ, List.getElem?_cons_zero]; rfl) (by kernel_rfl) (fun _ _ _ _ _ h => h) ⟨rfl, (by intro c h; cases h), ?_⟩ hHeld ?_
  rotate_left
  focus (intro wS hSw; (try replace hSw := HSF.out wS hSw); (try dsimp only at hSw); go_simp; (try with_reducible rfl))
  (try simp only [Act.put, List.setIfInBounds_toArray, List.set_cons_zero, List.set_cons_succ])
  refine wpAnyS_pure 13 (v := ?_) (fun _ => trivial) (by simp only [List.getElem?_toArray, List.getElem?_cons_succ, List.getElem?_cons_zero]; rfl) (by kernel_rfl) (fun _ _ _ _ _ h => h) ⟨rfl, (by intro c h; cases h), ?_⟩ hHeld ?_
  rotate_left
  focus (intro wS hSw; (try replace hSw := HSF.out wS hSw); (try dsimp only at hSw); go_simp; (try with_reducible rfl))
  (try simp only [Act.put, List.setIfInBounds_toArray, List.set_cons_zero, List.set_cons_succ])
  refine wpAnyS_pure 14 (v := ?_) (fun _ => trivial) (by simp only [List.getElem?_toArray, List.getElem?_cons_succ, List.getElem?_cons_zero]; rfl) (by kernel_rfl) (fun _ _ _ _ _ h => h) ⟨rfl, (by intro c h; cases h), ?_⟩ hHeld ?_
  rotate_left
  focus (intro wS hSw; (try replace hSw := HSF.out wS hSw); (try dsimp only at hSw); go_simp; (try with_reducible rfl))
  (try simp only [Act.put, List.setIfInBounds_toArray, List.set_cons_zero, List.set_cons_succ])
  refine wpAnyS_done (by kernel_rfl) ?_
  clear hHeld HSF
  go_wp2_with fail
  all_goals (go_ret; refine ⟨ret_int ?_, BD.out⟩; rw [HR.out]; clear HR BD; by_cases hme : d.home[k] = d.me <;> cases home <;> simp_all)
end
end Go.Proofs.YtappgjdnfllblaaDoor
namespace Go.Proofs.YtappgjdnfllblaaDoor
open Go.RowKit Go.IntWalk Go.Maps Go.WideMaps
def LDk.setH (d : LDk) (z : Int) (x : Ho) : LDk := { d with hs := fun y => if y = z then x else d.hs y }
def LDk.setG (d : LDk) (z : Int) (x : Gu) : LDk := { d with gs := fun y => if y = z then x else d.gs y }
theorem LDk.Ok.setH {d : LDk} (h : d.Ok) {z : Int} (hp : d.hp z = true) {x : Ho} (hx : HoB x) : (d.setH z x).Ok := by
  refine ⟨h.me, h.hm, h.len, fun y hy => ?_, h.gg, fun y => ?_, h.gb⟩
  · have hne : y ≠ z := by rintro rfl; have : d.hp y = false := hy; rw [hp] at this; cases this
    show (if y = z then x else d.hs y) = _
    rw [if_neg hne]; exact h.hh y hy
  · show HoB (if y = z then x else d.hs y)
    split
    · exact hx
    · exact h.hb y
theorem LDk.Ok.setG {d : LDk} (h : d.Ok) {z : Int} (hp : d.gp z = true) {x : Gu} (hx : GuB x) : (d.setG z x).Ok := by
  refine ⟨h.me, h.hm, h.len, h.hh, fun y hy => ?_, h.hb, fun y => ?_⟩
  · have hne : y ≠ z := by rintro rfl; have : d.gp y = false := hy; rw [hp] at this; cases this
    show (if y = z then x else d.gs y) = _
    rw [if_neg hne]; exact h.gg y hy
  · show GuB (if y = z then x else d.gs y)
    split
    · exact hx
    · exact h.gb y
theorem lAs_no {d : LDk} {z : Int} (h : lAs d z false = 0) : d.gp z = true := by
  unfold lAs at h
  split at h
  · cases h
  · rename_i h1
    split at h
    · cases h
    · rename_i h2
      simp only [LDk.gp, decide_eq_true_eq]
      refine ⟨by omega, by omega, fun e => h2 (by rw [decide_eq_true e]; decide)⟩
theorem lAs_yes {d : LDk} {z : Int} (h : lAs d z true = 0) : d.hp z = true := by
  unfold lAs at h
  split at h
  · cases h
  · rename_i h1
    split at h
    · cases h
    · rename_i h2
      simp only [LDk.hp, decide_eq_true_eq]
      exact ⟨by omega, by omega, by simpa using h2⟩
section
variable {w : World} {base b : Nat} {v : Value} {mh mg : Nat} {d : LDk}
theorem MK.Own.apart {T : Type} {M : MK T} {w : World} {q : Nat} {f : Int → T} {p : Int → Bool} {m : Nat} (h : M.Own w q f p m) {g : Nat} {t : TypeId} {cs : Array Value} (hb : Blk w g t cs) : g ≠ q := by
  rintro rfl
  obtain ⟨D, n, ⟨es, clock, h1, _⟩, _⟩ := h
  unfold Blk at hb
  rw [h1] at hb
  cases hb
theorem Ld.putG (h : Ld w base b v mh mg d) {z : Int} (hz : I64 z) (hp : d.gp z = true) (hl : d.home.length ≤ 64) (x : Gu) :
    ∃ w2, (Instr.mapUpdate 81 (.map (some mg)) (.int .i64 z) (.agg #[.int .i64 x.1, .int .i64 x.2.1, .int .i64 x.2.2.1, .int .i64 x.2.2.2])).run Tryd.prog w = .ok () w2 ∧ Ld w2 base b v mh mg (d.setG z x) ∧ w.grownBy w2 (some mg) := by
  obtain ⟨w2, r1, r2, r3⟩ := h.g.put hz (by unfold maxLen; omega) x
  rw [hp, if_pos rfl] at r2
  have e : (fun y => if y = z then true else d.gp y) = d.gp := by
    funext y
    by_cases hy : y = z
    · subst hy; simp [hp]
    · simp [hy]
  rw [e] at r2
  refine ⟨w2, r1, ⟨h.k.grown r3 (by simpa using h.g.apart h.k), h.r.kept r3 ?_, h.h.kept r3 (by simpa using h.ne), r2, h.ha, h.ga, h.ba, h.ne⟩, r3⟩
  cases hv : v.ownBlock with
  | none => exact Or.inl rfl
  | some g =>
    obtain ⟨-, cs, hb⟩ := own_blk h.r g hv
    exact Or.inr (by simpa using h.g.apart hb)
theorem Ld.putH (h : Ld w base b v mh mg d) {z : Int} (hz : I64 z) (hp : d.hp z = true) (hl : d.home.length ≤ 64) (x : Ho) :
    ∃ w2, (Instr.mapUpdate 80 (.map (some mh)) (.int .i64 z) (.agg #[.int .i64 x.1, .int .i64 x.2.1, .bool x.2.2])).run Tryd.prog w = .ok () w2 ∧ Ld w2 base b v mh mg (d.setH z x) ∧ w.grownBy w2 (some mh) := by
  obtain ⟨w2, r1, r2, r3⟩ := h.h.put hz (by unfold maxLen; omega) x
  rw [hp, if_pos rfl] at r2
  have e : (fun y => if y = z then true else d.hp y) = d.hp := by
    funext y
    by_cases hy : y = z
    · subst hy; simp [hp]
    · simp [hy]
  rw [e] at r2
  refine ⟨w2, r1, ⟨h.k.grown r3 (by simpa using h.h.apart h.k), h.r.kept r3 ?_, r2, h.g.kept r3 (by simpa using h.ne.symm), h.ha, h.ga, h.ba, h.ne⟩, r3⟩
  cases hv : v.ownBlock with
  | none => exact Or.inl rfl
  | some g =>
    obtain ⟨-, cs, hb⟩ := own_blk h.r g hv
    exact Or.inr (by simpa using h.h.apart hb)
theorem Ld.kept {w' : World} {gn : Nat} (h : Ld w base b v mh mg d) (hg : w.grownBy w' (some gn)) (h1 : b ≠ gn) (h2 : mh ≠ gn) (h3 : mg ≠ gn) (h4 : ∀ k, v.ownBlock = some k → k ≠ gn) : Ld w' base b v mh mg d := by
  refine ⟨h.k.grown hg (by simpa using h1), h.r.kept hg ?_, h.h.kept hg (by simpa using h2), h.g.kept hg (by simpa using h3), h.ha, h.ga, h.ba, h.ne⟩
  cases hv : v.ownBlock with
  | none => exact Or.inl rfl
  | some g => exact Or.inr (by simpa using h4 g hv)
theorem gr_far {w w2 w4 : World} {row : Option Nat} {gn : Nat} (h : w.grownBy w2 row) (h2 : w2.grownBy w4 (some gn)) (hn : w.heap.size ≤ gn) : w.grownBy w4 row :=
  ⟨h2.os.trans h.os, h2.tape.trans h.tape, h2.output.trans h.output, Nat.le_trans h.size h2.size, fun k hk hne => (h2.block k (Nat.lt_of_lt_of_le hk h.size) (by simp only [ne_eq, Option.some.injEq]; omega)).trans (h.block k hk hne)⟩
/-- A note as a value. -/
def noteC (k z u n : Int) : Value := .agg #[.int .i64 k, .int .i64 z, .int .i64 u, .int .i64 n]
/-- The two results of a call that names its first, a note. -/
theorem lres_row {P : Program} {fn : Func} {p u : Tmp} {ty : TypeId} (h : fn.results = #[.cell p ty, .tmp u]) (tmps : Array Value) (w : World) (g : Nat) (t : TypeId) (cs : Array Value) (fr : Nat × Nat) (d : TypeDesc)
    (hp : tmps.getD p undef = .pointer (some ⟨g, 0, none⟩)) (hg : w.heap[g]? = some (.cells cs t fr))
    (hu : P.underlying ty = some d) (hd : (match d with | .struct _ | .array _ _ => true | _ => false) = true) (hi : (P.info? ty).map (·.size) = some cs.size) :
    (results fn tmps).run P w = .ok (.tuple #[.agg cs, tmps.getD u undef]) w := by
  rw [results_cell_tmp h]
  rw [hp]
  simp [asAddr, run_loadVar_row w g t ty cs fr d hg hu hd hi]
set_option maxRecDepth 100000 in
set_option maxHeartbeats 1000000 in
theorem ask_no (h : Ld w base b v mh mg d) (ok : d.Ok) {z : Int} (hz : I64 z) (he : lAs d z false ≠ 0) : Calls Tryd.prog 18 #[.pointer (some ⟨b, 0, none⟩), .int .i64 z] w fun e w' => e = .returned (.tuple #[noteC 0 0 0 0, .int .i64 (lAs d z false)]) ∧ Below w.heap.size w w' := by
  have HA := hid (fun W (hW : Below w.heap.size w W) => as_any (h.below hW) ok (z := z) false)
  generalize lAs d z false = er at *
  clear h ok
  go_enter Tryd.func18, Tryd.ntmps18
  go_upto_region 1 with fail
  have NZ := hid (Blk.new w 26 #[.int .i64 0, .int .i64 0, .int .i64 0, .int .i64 0])
  have B1 := hid (show Below w.heap.size w (w.alloc (Obj.cells #[.int .i64 0, .int .i64 0, .int .i64 0, .int .i64 0] 26)) by (repeat (first | exact Below.refl _ _ | assumption | refine below_drewN ?_ _ | refine Below.drew ?_ | refine Below.alloc ?_ (by (try simp); (try omega)) _ | refine Below.setCell ?_ (by (try simp); (try omega)) _)))
  have hgn := hid (Nat.le_refl w.heap.size)
  generalize (w.alloc (Obj.cells #[.int .i64 0, .int .i64 0, .int .i64 0, .int .i64 0] 26)) = w1 at *
  obtain ⟨gn, hgn'⟩ : ∃ gn, gn = w.heap.size := ⟨_, rfl⟩
  rw [← hgn'] at NZ
  rw [← hgn']
  have hgn2 := hid (Nat.le_of_eq hgn'.symm)
  clear hgn' hgn
  go_upto_region 2 with (go_at_call 65; refine (HA.out _ B1.out).mono ?_; rintro e wa ⟨rfl, hBa⟩)
  have Ba := hid (B1.out.trans (hBa.mono B1.out.size))
  have Na := hid (NZ.out.below hBa NZ.out.lt)
  have x0 := Na.out.cell 0; have x1 := Na.out.cell 1; have x2 := Na.out.cell 2; have x3 := Na.out.cell 3; have fz := Na.out.frozen
  simp at x0 x1 x2 x3
  clear hBa B1 NZ HA
  go_wp2_with fail
  have B4 := hid ((((Ba.out.setCell (p := ⟨gn, 0, none⟩) hgn2.out (.int .i64 0)).setCell (p := ⟨gn, 1, none⟩) hgn2.out (.int .i64 0)).setCell (p := ⟨gn, 2, none⟩) hgn2.out (.int .i64 0)).setCell (p := ⟨gn, 3, none⟩) hgn2.out (.int .i64 0))
  have N4 := hid ((((Na.out.set_ 0 (.int .i64 0)).set_ 1 (.int .i64 0)).set_ 2 (.int .i64 0)).set_ 3 (.int .i64 0))
  simp at N4
  clear x0 x1 x2 x3 fz Na
  generalize ((((wa.setCell ⟨gn, 0, none⟩ (.int .i64 0)).setCell ⟨gn, 1, none⟩ (.int .i64 0)).setCell ⟨gn, 2, none⟩ (.int .i64 0)).setCell ⟨gn, 3, none⟩ (.int .i64 0)) = w4 at *
  have x0 := N4.out.cell 0; have x1 := N4.out.cell 1; have x2 := N4.out.cell 2; have x3 := N4.out.cell 3
  simp at x0 x1 x2 x3
  refine bodyPost_ret (lres_row Tryd.results18 _ _ gn 26 #[.int .i64 0, .int .i64 0, .int .i64 0, .int .i64 0] (0, 0) _ rfl N4.out Tryd.underlying26 rfl (by kernel_rfl)) rfl ?_
  exact ⟨rfl, B4.out⟩
set_option maxRecDepth 100000 in
set_option maxHeartbeats 1000000 in
theorem ask_yes (h : Ld w base b v mh mg d) (ok : d.Ok) {z : Int} (hz : I64 z) (he : lAs d z false = 0) : Calls Tryd.prog 18 #[.pointer (some ⟨b, 0, none⟩), .int .i64 z] w fun e w' => e = .returned (.tuple #[noteC 0 z 0 ((d.gs z).2.2.2 + 1), .int .i64 0]) ∧ Ld w' base b v mh mg (d.setG z (askG (d.gs z))) ∧ w.grownBy w' (some mg) := by
  have HA := hid (fun W (hW : Below w.heap.size w W) => as_any (h.below hW) ok (z := z) false)
  rw [he] at HA
  have hp := hid (lAs_no he)
  have hgb := ok.gb z
  obtain ⟨-, -, -, g1, g2⟩ := hgb
  have hw : wrap64 ((d.gs z).2.2.2 + 1) = (d.gs z).2.2.2 + 1 := wrap64_in _ (by omega)
  have hl := hid ok.len
  clear g1 g2 ok he
  go_enter Tryd.func18, Tryd.ntmps18
  go_upto_region 1 with fail
  have NZ := hid (Blk.new w 26 #[.int .i64 0, .int .i64 0, .int .i64 0, .int .i64 0])
  have B1 := hid (show Below w.heap.size w (w.alloc (Obj.cells #[.int .i64 0, .int .i64 0, .int .i64 0, .int .i64 0] 26)) by (repeat (first | exact Below.refl _ _ | assumption | refine below_drewN ?_ _ | refine Below.drew ?_ | refine Below.alloc ?_ (by (try simp); (try omega)) _ | refine Below.setCell ?_ (by (try simp); (try omega)) _)))
  have hgn := hid (Nat.le_refl w.heap.size)
  generalize (w.alloc (Obj.cells #[.int .i64 0, .int .i64 0, .int .i64 0, .int .i64 0] 26)) = w1 at *
  obtain ⟨gn, hgn'⟩ : ∃ gn, gn = w.heap.size := ⟨_, rfl⟩
  rw [← hgn'] at NZ
  rw [← hgn']
  have hgn2 := hid (Nat.le_of_eq hgn'.symm)
  clear hgn' hgn
  go_upto_region 2 with (go_at_call 65; refine (HA.out _ B1.out).mono ?_; rintro e wa ⟨rfl, hBa⟩)
  have Ba := hid (B1.out.trans (hBa.mono B1.out.size))
  have Na := hid (NZ.out.below hBa NZ.out.lt)
  have x0 := Na.out.cell 0; have x1 := Na.out.cell 1; have x2 := Na.out.cell 2; have x3 := Na.out.cell 3; have fz := Na.out.frozen
  simp at x0 x1 x2 x3
  clear hBa B1 NZ HA
  have HD := hid (h.below Ba.out)
  have hq := (h.below Ba.out).look hz
  obtain ⟨-, q2⟩ := hq
  obtain ⟨d0, d1, d2, d3⟩ := (h.below Ba.out).at_
  have LT := hid (And.intro h.k.lt (And.intro h.h.lt (And.intro h.g.lt (fun k (hk : v.ownBlock = some k) => (h.r.lt k hk).2))))
  clear h
  go_upto_region 6 with fail
  obtain ⟨we, hwe⟩ : ∃ we, we = wa.alloc (Obj.cells #[.int .i64 (d.gs z).1, .int .i64 (d.gs z).2.1, .int .i64 (d.gs z).2.2.1, .int .i64 ((d.gs z).2.2.2 + 1)] 87) := ⟨_, rfl⟩
  have be := hid (show Below wa.heap.size wa we by rw [hwe]; (repeat (first | exact Below.refl _ _ | assumption | refine below_drewN ?_ _ | refine Below.drew ?_ | refine Below.alloc ?_ (by (try simp); (try omega)) _ | refine Below.setCell ?_ (by (try simp); (try omega)) _)))
  have ge := hid (show Blk we wa.heap.size 87 #[.int .i64 (d.gs z).1, .int .i64 (d.gs z).2.1, .int .i64 (d.gs z).2.2.1, .int .i64 ((d.gs z).2.2.2 + 1)] by rw [hwe]; exact Blk.new wa _ _)
  have HE := hid (HD.out.below be.out)
  have NE := hid (Na.out.below be.out Na.out.lt)
  have Be := hid (Ba.out.trans (be.out.mono Ba.out.size))
  rw [← hwe]
  clear hwe q2 d0 d1 d2 d3 x0 x1 x2 x3 fz HD Na Ba be
  generalize wa.heap.size = gq at *
  have HSF := hid (fun (wq : World) (hq : Below we.heap.size we wq) => And.intro (HE.out.below hq).at_.2.2.2 (And.intro ((ge.out.below hq ge.out.lt).cell 0) (And.intro ((ge.out.below hq ge.out.lt).cell 1) (And.intro ((ge.out.below hq ge.out.lt).cell 2) ((ge.out.below hq ge.out.lt).cell 3)))))
  have BD := hid ((Below.refl we.heap.size we).drew)
  refine wpIn_wide.1 (wpIn_region_S (n := 0) (fun wq => Below we.heap.size we wq) [6] (by kernel_rfl) BD.out (fun hHeld => ?_))
  generalize we.drew = wd at *
  refine wpAnyS_pure 0 (v := ?_) (fun _ => trivial) (by simp only [List.getElem?_toArray, List.getElem?_cons_succ, List.getElem?_cons_zero]; rfl) (by kernel_rfl) (fun _ _ _ _ _ h => h) ⟨rfl, (by intro c h; cases h), ?_⟩ hHeld ?_
  rotate_left
  focus (intro wS hSw; (try replace hSw := HSF.out wS hSw); (try dsimp only at hSw); go_simp; (try with_reducible rfl))
  (try simp only [Act.put, List.setIfInBounds_toArray, List.set_cons_zero, List.set_cons_succ])
  refine wpAnyS_take 1 (v := ?_) (fun _ => trivial) (by simp only [List.getElem?_toArray, List.getElem?_cons_succ, List.getElem?_cons_zero]; rfl) (by kernel_rfl) (fun _ _ _ _ _ h => h) ⟨rfl, (by intro c h; cases h), ?_⟩ hHeld ?_
  rotate_left
  focus (intro wS hSw; (try replace hSw := HSF.out wS hSw); (try dsimp only at hSw); go_simp; (try with_reducible rfl))
  (try simp only [Act.put, List.setIfInBounds_toArray, List.set_cons_zero, List.set_cons_succ])
  refine wpAnyS_pure 2 (v := ?_) (fun _ => trivial) (by simp only [List.getElem?_toArray, List.getElem?_cons_succ, List.getElem?_cons_zero]; rfl) (by kernel_rfl) (fun _ _ _ _ _ h => h) ⟨rfl, (by intro c h; cases h), ?_⟩ hHeld ?_
  rotate_left
  focus (intro wS hSw; (try replace hSw := HSF.out wS hSw); (try dsimp only at hSw); go_simp; (try with_reducible rfl))
  (try simp only [Act.put, List.setIfInBounds_toArray, List.set_cons_zero, List.set_cons_succ])
  refine wpAnyS_take 3 (v := ?_) (fun _ => trivial) (by simp only [List.getElem?_toArray, List.getElem?_cons_succ, List.getElem?_cons_zero]; rfl) (by kernel_rfl) (fun _ _ _ _ _ h => h) ⟨rfl, (by intro c h; cases h), ?_⟩ hHeld ?_
  rotate_left
  focus (intro wS hSw; (try replace hSw := HSF.out wS hSw); (try dsimp only at hSw); go_simp; (try with_reducible rfl))
  (try simp only [Act.put, List.setIfInBounds_toArray, List.set_cons_zero, List.set_cons_succ])
  refine wpAnyS_pure 4 (v := ?_) (fun _ => trivial) (by simp only [List.getElem?_toArray, List.getElem?_cons_succ, List.getElem?_cons_zero]; rfl) (by kernel_rfl) (fun _ _ _ _ _ h => h) ⟨rfl, (by intro c h; cases h), ?_⟩ hHeld ?_
  rotate_left
  focus (intro wS hSw; (try replace hSw := HSF.out wS hSw); (try dsimp only at hSw); go_simp; (try with_reducible rfl))
  (try simp only [Act.put, List.setIfInBounds_toArray, List.set_cons_zero, List.set_cons_succ])
  refine wpAnyS_take 5 (v := ?_) (fun _ => trivial) (by simp only [List.getElem?_toArray, List.getElem?_cons_succ, List.getElem?_cons_zero]; rfl) (by kernel_rfl) (fun _ _ _ _ _ h => h) ⟨rfl, (by intro c h; cases h), ?_⟩ hHeld ?_
  rotate_left
  focus (intro wS hSw; (try replace hSw := HSF.out wS hSw); (try dsimp only at hSw); go_simp; (try with_reducible rfl))
  (try simp only [Act.put, List.setIfInBounds_toArray, List.set_cons_zero, List.set_cons_succ])
  obtain ⟨w2, r1, r2, r3⟩ := (HE.out.below BD.out).putG hz hp.out hl.out (askG (d.gs z))
  have R2 := hid r2
  have R3 := hid r3
  have N2 := hid ((NE.out.below BD.out NE.out.lt).grown r3 (by simpa using (HE.out.below BD.out).g.apart (NE.out.below BD.out NE.out.lt)))
  clear r2 r3 NE
  simp only [askG] at r1
  refine wpAnyS_ready [6] (by kernel_rfl) (by simp) (AllReadyS.consL (by simp only [List.getElem?_toArray, List.getElem?_cons_succ, List.getElem?_cons_zero]; rfl) rfl (by kernel_rfl) (fun K hK => ?_) AllReadyS.nil)
  go_simp
  refine hK.out _ _ ?_
  (try simp only [Act.put, List.setIfInBounds_toArray, List.set_cons_zero, List.set_cons_succ])
  refine wpAnyS_done (by kernel_rfl) ?_
  have x0 := N2.out.cell 0; have x1 := N2.out.cell 1; have x2 := N2.out.cell 2; have x3 := N2.out.cell 3; have fz := N2.out.frozen
  simp at x0 x1 x2 x3
  have y3 := ((ge.out.below BD.out ge.out.lt).grown R3.out (by simpa using (HE.out.below BD.out).g.apart (ge.out.below BD.out ge.out.lt))).cell 3
  simp at y3
  have G2 := hid (gr_tr (gr_tr (gr_below Be.out (some mg)) (gr_below BD.out (some mg))) R3.out)
  clear hK HSF hHeld r1 HE ge BD R3 Be
  go_wp2_with fail
  have G4 := hid (gr_tr (gr_tr (gr_tr (gr_set w2 gn 0 (.int .i64 0)) (gr_set _ gn 1 (.int .i64 z))) (gr_set _ gn 2 (.int .i64 0))) (gr_set _ gn 3 (.int .i64 ((d.gs z).2.2.2 + 1))))
  have N4 := hid ((((N2.out.set_ 0 (.int .i64 0)).set_ 1 (.int .i64 z)).set_ 2 (.int .i64 0)).set_ 3 (.int .i64 ((d.gs z).2.2.2 + 1)))
  simp at N4
  clear x0 x1 x2 x3 fz N2 y3
  generalize ((((w2.setCell ⟨gn, 0, none⟩ (.int .i64 0)).setCell ⟨gn, 1, none⟩ (.int .i64 z)).setCell ⟨gn, 2, none⟩ (.int .i64 0)).setCell ⟨gn, 3, none⟩ (.int .i64 ((d.gs z).2.2.2 + 1))) = w4 at *
  have hq := hgn2.out
  obtain ⟨l1, l2, l3, l4⟩ := LT.out
  refine bodyPost_ret (lres_row Tryd.results18 _ _ gn 26 #[.int .i64 0, .int .i64 z, .int .i64 0, .int .i64 ((d.gs z).2.2.2 + 1)] (0, 0) _ rfl N4.out Tryd.underlying26 rfl (by kernel_rfl)) rfl ?_
  exact ⟨rfl, R2.out.kept G4.out (by omega) (by omega) (by omega) (fun k hk => by have := l4 k hk; omega), gr_far G2.out G4.out hq⟩
end
end Go.Proofs.YtappgjdnfllblaaDoor
namespace Go.Proofs.YtappgjdnfllblaaDoor
open Go.RowKit Go.IntWalk Go.Maps Go.WideMaps
section
variable {w : World} {base b : Nat} {v : Value} {mh mg : Nat} {d : LDk}
set_option maxRecDepth 100000 in
set_option maxHeartbeats 1000000 in
theorem back_no (h : Ld w base b v mh mg d) (ok : d.Ok) {z : Int} (hz : I64 z) (he : lAs d z false ≠ 0) : Calls Tryd.prog 24 #[.pointer (some ⟨b, 0, none⟩), .int .i64 z] w fun e w' => e = .returned (.tuple #[noteC 0 0 0 0, .int .i64 (lAs d z false)]) ∧ Below w.heap.size w w' := by
  have HA := hid (fun W (hW : Below w.heap.size w W) => as_any (h.below hW) ok (z := z) false)
  generalize lAs d z false = er at *
  clear h ok
  go_enter Tryd.func24, Tryd.ntmps24
  go_upto_region 1 with fail
  have NZ := hid (Blk.new w 26 #[.int .i64 0, .int .i64 0, .int .i64 0, .int .i64 0])
  have B1 := hid (show Below w.heap.size w (w.alloc (Obj.cells #[.int .i64 0, .int .i64 0, .int .i64 0, .int .i64 0] 26)) by (repeat (first | exact Below.refl _ _ | assumption | refine below_drewN ?_ _ | refine Below.drew ?_ | refine Below.alloc ?_ (by (try simp); (try omega)) _ | refine Below.setCell ?_ (by (try simp); (try omega)) _)))
  have hgn := hid (Nat.le_refl w.heap.size)
  generalize (w.alloc (Obj.cells #[.int .i64 0, .int .i64 0, .int .i64 0, .int .i64 0] 26)) = w1 at *
  obtain ⟨gn, hgn'⟩ : ∃ gn, gn = w.heap.size := ⟨_, rfl⟩
  rw [← hgn'] at NZ
  rw [← hgn']
  have hgn2 := hid (Nat.le_of_eq hgn'.symm)
  clear hgn' hgn
  go_upto_region 2 with (go_at_call 65; refine (HA.out _ B1.out).mono ?_; rintro e wa ⟨rfl, hBa⟩)
  have Ba := hid (B1.out.trans (hBa.mono B1.out.size))
  have Na := hid (NZ.out.below hBa NZ.out.lt)
  have x0 := Na.out.cell 0; have x1 := Na.out.cell 1; have x2 := Na.out.cell 2; have x3 := Na.out.cell 3; have fz := Na.out.frozen
  simp at x0 x1 x2 x3
  clear hBa B1 NZ HA
  go_wp2_with fail
  have B4 := hid ((((Ba.out.setCell (p := ⟨gn, 0, none⟩) hgn2.out (.int .i64 0)).setCell (p := ⟨gn, 1, none⟩) hgn2.out (.int .i64 0)).setCell (p := ⟨gn, 2, none⟩) hgn2.out (.int .i64 0)).setCell (p := ⟨gn, 3, none⟩) hgn2.out (.int .i64 0))
  have N4 := hid ((((Na.out.set_ 0 (.int .i64 0)).set_ 1 (.int .i64 0)).set_ 2 (.int .i64 0)).set_ 3 (.int .i64 0))
  simp at N4
  clear x0 x1 x2 x3 fz Na
  generalize ((((wa.setCell ⟨gn, 0, none⟩ (.int .i64 0)).setCell ⟨gn, 1, none⟩ (.int .i64 0)).setCell ⟨gn, 2, none⟩ (.int .i64 0)).setCell ⟨gn, 3, none⟩ (.int .i64 0)) = w4 at *
  have x0 := N4.out.cell 0; have x1 := N4.out.cell 1; have x2 := N4.out.cell 2; have x3 := N4.out.cell 3
  simp at x0 x1 x2 x3
  refine bodyPost_ret (lres_row Tryd.results24 _ _ gn 26 #[.int .i64 0, .int .i64 0, .int .i64 0, .int .i64 0] (0, 0) _ rfl N4.out Tryd.underlying26 rfl (by kernel_rfl)) rfl ?_
  exact ⟨rfl, B4.out⟩
set_option maxRecDepth 100000 in
set_option maxHeartbeats 1000000 in
theorem back_st (h : Ld w base b v mh mg d) (ok : d.Ok) {z : Int} (hz : I64 z) (he : lAs d z false = 0) (hs : (d.gs z).2.1 ≤ (d.gs z).2.2.1) : Calls Tryd.prog 24 #[.pointer (some ⟨b, 0, none⟩), .int .i64 z] w fun e w' => e = .returned (.tuple #[noteC 0 0 0 0, .int .i64 7]) ∧ Below w.heap.size w w' := by
  have HA := hid (fun W (hW : Below w.heap.size w W) => as_any (h.below hW) ok (z := z) false)
  rw [he] at HA
  have hp := hid (lAs_no he)
  clear ok he
  go_enter Tryd.func24, Tryd.ntmps24
  go_upto_region 1 with fail
  have NZ := hid (Blk.new w 26 #[.int .i64 0, .int .i64 0, .int .i64 0, .int .i64 0])
  have B1 := hid (show Below w.heap.size w (w.alloc (Obj.cells #[.int .i64 0, .int .i64 0, .int .i64 0, .int .i64 0] 26)) by (repeat (first | exact Below.refl _ _ | assumption | refine below_drewN ?_ _ | refine Below.drew ?_ | refine Below.alloc ?_ (by (try simp); (try omega)) _ | refine Below.setCell ?_ (by (try simp); (try omega)) _)))
  have hgn := hid (Nat.le_refl w.heap.size)
  generalize (w.alloc (Obj.cells #[.int .i64 0, .int .i64 0, .int .i64 0, .int .i64 0] 26)) = w1 at *
  obtain ⟨gn, hgn'⟩ : ∃ gn, gn = w.heap.size := ⟨_, rfl⟩
  rw [← hgn'] at NZ
  rw [← hgn']
  have hgn2 := hid (Nat.le_of_eq hgn'.symm)
  clear hgn' hgn
  go_upto_region 2 with (go_at_call 65; refine (HA.out _ B1.out).mono ?_; rintro e wa ⟨rfl, hBa⟩)
  have Ba := hid (B1.out.trans (hBa.mono B1.out.size))
  have Na := hid (NZ.out.below hBa NZ.out.lt)
  have x0 := Na.out.cell 0; have x1 := Na.out.cell 1; have x2 := Na.out.cell 2; have x3 := Na.out.cell 3; have fz := Na.out.frozen
  simp at x0 x1 x2 x3
  clear hBa B1 NZ HA
  have HD := hid (h.below Ba.out)
  have hq := (h.below Ba.out).look hz
  obtain ⟨-, q2⟩ := hq
  obtain ⟨d0, d1, d2, d3⟩ := (h.below Ba.out).at_
  clear h
  go_upto_region 5 with fail
  obtain ⟨we, hwe⟩ : ∃ we, we = wa.alloc (Obj.cells #[.int .i64 (d.gs z).1, .int .i64 (d.gs z).2.1, .int .i64 (d.gs z).2.2.1, .int .i64 (d.gs z).2.2.2] 87) := ⟨_, rfl⟩
  have be := hid (show Below wa.heap.size wa we by rw [hwe]; (repeat (first | exact Below.refl _ _ | assumption | refine below_drewN ?_ _ | refine Below.drew ?_ | refine Below.alloc ?_ (by (try simp); (try omega)) _ | refine Below.setCell ?_ (by (try simp); (try omega)) _)))
  have ge := hid (show Blk we wa.heap.size 87 #[.int .i64 (d.gs z).1, .int .i64 (d.gs z).2.1, .int .i64 (d.gs z).2.2.1, .int .i64 (d.gs z).2.2.2] by rw [hwe]; exact Blk.new wa _ _)
  have NE := hid (Na.out.below be.out Na.out.lt)
  have Be := hid (Ba.out.trans (be.out.mono Ba.out.size))
  rw [← hwe]
  clear hwe q2 d0 d1 d2 d3 x0 x1 x2 x3 fz HD Na Ba be
  generalize wa.heap.size = gq at *
  have x0 := NE.out.cell 0; have x1 := NE.out.cell 1; have x2 := NE.out.cell 2; have x3 := NE.out.cell 3; have fz := NE.out.frozen
  have y1 := ge.out.cell 1; have y2 := ge.out.cell 2
  simp at x0 x1 x2 x3 y1 y2
  go_wp2_with fail
  have B4 := hid ((((Be.out.setCell (p := ⟨gn, 0, none⟩) hgn2.out (.int .i64 0)).setCell (p := ⟨gn, 1, none⟩) hgn2.out (.int .i64 0)).setCell (p := ⟨gn, 2, none⟩) hgn2.out (.int .i64 0)).setCell (p := ⟨gn, 3, none⟩) hgn2.out (.int .i64 0))
  have N4 := hid ((((NE.out.set_ 0 (.int .i64 0)).set_ 1 (.int .i64 0)).set_ 2 (.int .i64 0)).set_ 3 (.int .i64 0))
  simp at N4
  clear x0 x1 x2 x3 fz NE
  generalize ((((we.setCell ⟨gn, 0, none⟩ (.int .i64 0)).setCell ⟨gn, 1, none⟩ (.int .i64 0)).setCell ⟨gn, 2, none⟩ (.int .i64 0)).setCell ⟨gn, 3, none⟩ (.int .i64 0)) = w4 at *
  refine bodyPost_ret (lres_row Tryd.results24 _ _ gn 26 #[.int .i64 0, .int .i64 0, .int .i64 0, .int .i64 0] (0, 0) _ rfl N4.out Tryd.underlying26 rfl (by kernel_rfl)) rfl ?_
  exact ⟨rfl, B4.out⟩
set_option maxRecDepth 100000 in
set_option maxHeartbeats 1000000 in
theorem back_yes (h : Ld w base b v mh mg d) (ok : d.Ok) {z : Int} (hz : I64 z) (he : lAs d z false = 0) (hs : (d.gs z).2.2.1 < (d.gs z).2.1) : Calls Tryd.prog 24 #[.pointer (some ⟨b, 0, none⟩), .int .i64 z] w fun e w' => e = .returned (.tuple #[noteC 2 z 0 (d.gs z).2.1, .int .i64 0]) ∧ Ld w' base b v mh mg (d.setG z (backG (d.gs z))) ∧ w.grownBy w' (some mg) := by
  have HA := hid (fun W (hW : Below w.heap.size w W) => as_any (h.below hW) ok (z := z) false)
  rw [he] at HA
  have hp := hid (lAs_no he)
  have hl := hid ok.len
  clear ok he
  go_enter Tryd.func24, Tryd.ntmps24
  go_upto_region 1 with fail
  have NZ := hid (Blk.new w 26 #[.int .i64 0, .int .i64 0, .int .i64 0, .int .i64 0])
  have B1 := hid (show Below w.heap.size w (w.alloc (Obj.cells #[.int .i64 0, .int .i64 0, .int .i64 0, .int .i64 0] 26)) by (repeat (first | exact Below.refl _ _ | assumption | refine below_drewN ?_ _ | refine Below.drew ?_ | refine Below.alloc ?_ (by (try simp); (try omega)) _ | refine Below.setCell ?_ (by (try simp); (try omega)) _)))
  have hgn := hid (Nat.le_refl w.heap.size)
  generalize (w.alloc (Obj.cells #[.int .i64 0, .int .i64 0, .int .i64 0, .int .i64 0] 26)) = w1 at *
  obtain ⟨gn, hgn'⟩ : ∃ gn, gn = w.heap.size := ⟨_, rfl⟩
  rw [← hgn'] at NZ
  rw [← hgn']
  have hgn2 := hid (Nat.le_of_eq hgn'.symm)
  clear hgn' hgn
  go_upto_region 2 with (go_at_call 65; refine (HA.out _ B1.out).mono ?_; rintro e wa ⟨rfl, hBa⟩)
  have Ba := hid (B1.out.trans (hBa.mono B1.out.size))
  have Na := hid (NZ.out.below hBa NZ.out.lt)
  have x0 := Na.out.cell 0; have x1 := Na.out.cell 1; have x2 := Na.out.cell 2; have x3 := Na.out.cell 3; have fz := Na.out.frozen
  simp at x0 x1 x2 x3
  clear hBa B1 NZ HA
  have HD := hid (h.below Ba.out)
  have hq := (h.below Ba.out).look hz
  obtain ⟨-, q2⟩ := hq
  obtain ⟨d0, d1, d2, d3⟩ := (h.below Ba.out).at_
  have LT := hid (And.intro h.k.lt (And.intro h.h.lt (And.intro h.g.lt (fun k (hk : v.ownBlock = some k) => (h.r.lt k hk).2))))
  clear h
  go_upto_region 8 with fail
  obtain ⟨we, hwe⟩ : ∃ we, we = wa.alloc (Obj.cells #[.int .i64 0, .int .i64 (d.gs z).2.1, .int .i64 (d.gs z).2.1, .int .i64 (d.gs z).2.2.2] 87) := ⟨_, rfl⟩
  have be := hid (show Below wa.heap.size wa we by rw [hwe]; (repeat (first | exact Below.refl _ _ | assumption | refine below_drewN ?_ _ | refine Below.drew ?_ | refine Below.alloc ?_ (by (try simp); (try omega)) _ | refine Below.setCell ?_ (by (try simp); (try omega)) _)))
  have ge := hid (show Blk we wa.heap.size 87 #[.int .i64 0, .int .i64 (d.gs z).2.1, .int .i64 (d.gs z).2.1, .int .i64 (d.gs z).2.2.2] by rw [hwe]; exact Blk.new wa _ _)
  have HE := hid (HD.out.below be.out)
  have NE := hid (Na.out.below be.out Na.out.lt)
  have Be := hid (Ba.out.trans (be.out.mono Ba.out.size))
  rw [← hwe]
  clear hwe q2 d0 d1 d2 d3 x0 x1 x2 x3 fz HD Na Ba be
  generalize wa.heap.size = gq at *
  have HSF := hid (fun (wq : World) (hq : Below we.heap.size we wq) => And.intro (HE.out.below hq).at_.2.2.2 (And.intro ((ge.out.below hq ge.out.lt).cell 0) (And.intro ((ge.out.below hq ge.out.lt).cell 1) (And.intro ((ge.out.below hq ge.out.lt).cell 2) ((ge.out.below hq ge.out.lt).cell 3)))))
  have BD := hid ((Below.refl we.heap.size we).drew)
  refine wpIn_wide.1 (wpIn_region_S (n := 0) (fun wq => Below we.heap.size we wq) [6] (by kernel_rfl) BD.out (fun hHeld => ?_))
  generalize we.drew = wd at *
  refine wpAnyS_pure 0 (v := ?_) (fun _ => trivial) (by simp only [List.getElem?_toArray, List.getElem?_cons_succ, List.getElem?_cons_zero]; rfl) (by kernel_rfl) (fun _ _ _ _ _ h => h) ⟨rfl, (by intro c h; cases h), ?_⟩ hHeld ?_
  rotate_left
  focus (intro wS hSw; (try replace hSw := HSF.out wS hSw); (try dsimp only at hSw); go_simp; (try with_reducible rfl))
  (try simp only [Act.put, List.setIfInBounds_toArray, List.set_cons_zero, List.set_cons_succ])
  refine wpAnyS_take 1 (v := ?_) (fun _ => trivial) (by simp only [List.getElem?_toArray, List.getElem?_cons_succ, List.getElem?_cons_zero]; rfl) (by kernel_rfl) (fun _ _ _ _ _ h => h) ⟨rfl, (by intro c h; cases h), ?_⟩ hHeld ?_
  rotate_left
  focus (intro wS hSw; (try replace hSw := HSF.out wS hSw); (try dsimp only at hSw); go_simp; (try with_reducible rfl))
  (try simp only [Act.put, List.setIfInBounds_toArray, List.set_cons_zero, List.set_cons_succ])
  refine wpAnyS_pure 2 (v := ?_) (fun _ => trivial) (by simp only [List.getElem?_toArray, List.getElem?_cons_succ, List.getElem?_cons_zero]; rfl) (by kernel_rfl) (fun _ _ _ _ _ h => h) ⟨rfl, (by intro c h; cases h), ?_⟩ hHeld ?_
  rotate_left
  focus (intro wS hSw; (try replace hSw := HSF.out wS hSw); (try dsimp only at hSw); go_simp; (try with_reducible rfl))
  (try simp only [Act.put, List.setIfInBounds_toArray, List.set_cons_zero, List.set_cons_succ])
  refine wpAnyS_take 3 (v := ?_) (fun _ => trivial) (by simp only [List.getElem?_toArray, List.getElem?_cons_succ, List.getElem?_cons_zero]; rfl) (by kernel_rfl) (fun _ _ _ _ _ h => h) ⟨rfl, (by intro c h; cases h), ?_⟩ hHeld ?_
  rotate_left
  focus (intro wS hSw; (try replace hSw := HSF.out wS hSw); (try dsimp only at hSw); go_simp; (try with_reducible rfl))
  (try simp only [Act.put, List.setIfInBounds_toArray, List.set_cons_zero, List.set_cons_succ])
  refine wpAnyS_pure 4 (v := ?_) (fun _ => trivial) (by simp only [List.getElem?_toArray, List.getElem?_cons_succ, List.getElem?_cons_zero]; rfl) (by kernel_rfl) (fun _ _ _ _ _ h => h) ⟨rfl, (by intro c h; cases h), ?_⟩ hHeld ?_
  rotate_left
  focus (intro wS hSw; (try replace hSw := HSF.out wS hSw); (try dsimp only at hSw); go_simp; (try with_reducible rfl))
  (try simp only [Act.put, List.setIfInBounds_toArray, List.set_cons_zero, List.set_cons_succ])
  refine wpAnyS_take 5 (v := ?_) (fun _ => trivial) (by simp only [List.getElem?_toArray, List.getElem?_cons_succ, List.getElem?_cons_zero]; rfl) (by kernel_rfl) (fun _ _ _ _ _ h => h) ⟨rfl, (by intro c h; cases h), ?_⟩ hHeld ?_
  rotate_left
  focus (intro wS hSw; (try replace hSw := HSF.out wS hSw); (try dsimp only at hSw); go_simp; (try with_reducible rfl))
  (try simp only [Act.put, List.setIfInBounds_toArray, List.set_cons_zero, List.set_cons_succ])
  obtain ⟨w2, r1, r2, r3⟩ := (HE.out.below BD.out).putG hz hp.out hl.out (backG (d.gs z))
  have R2 := hid r2
  have R3 := hid r3
  have N2 := hid ((NE.out.below BD.out NE.out.lt).grown r3 (by simpa using (HE.out.below BD.out).g.apart (NE.out.below BD.out NE.out.lt)))
  clear r2 r3 NE
  simp only [backG] at r1
  refine wpAnyS_ready [6] (by kernel_rfl) (by simp) (AllReadyS.consL (by simp only [List.getElem?_toArray, List.getElem?_cons_succ, List.getElem?_cons_zero]; rfl) rfl (by kernel_rfl) (fun K hK => ?_) AllReadyS.nil)
  go_simp
  refine hK.out _ _ ?_
  (try simp only [Act.put, List.setIfInBounds_toArray, List.set_cons_zero, List.set_cons_succ])
  refine wpAnyS_done (by kernel_rfl) ?_
  have x0 := N2.out.cell 0; have x1 := N2.out.cell 1; have x2 := N2.out.cell 2; have x3 := N2.out.cell 3; have fz := N2.out.frozen
  simp at x0 x1 x2 x3
  have y3 := ((ge.out.below BD.out ge.out.lt).grown R3.out (by simpa using (HE.out.below BD.out).g.apart (ge.out.below BD.out ge.out.lt))).cell 1
  simp at y3
  have G2 := hid (gr_tr (gr_tr (gr_below Be.out (some mg)) (gr_below BD.out (some mg))) R3.out)
  clear hK HSF hHeld r1 HE ge BD R3 Be
  go_wp2_with fail
  have G4 := hid (gr_tr (gr_tr (gr_tr (gr_set w2 gn 0 (.int .i64 2)) (gr_set _ gn 1 (.int .i64 z))) (gr_set _ gn 2 (.int .i64 0))) (gr_set _ gn 3 (.int .i64 (d.gs z).2.1)))
  have N4 := hid ((((N2.out.set_ 0 (.int .i64 2)).set_ 1 (.int .i64 z)).set_ 2 (.int .i64 0)).set_ 3 (.int .i64 (d.gs z).2.1))
  simp at N4
  clear x0 x1 x2 x3 fz N2 y3
  generalize ((((w2.setCell ⟨gn, 0, none⟩ (.int .i64 2)).setCell ⟨gn, 1, none⟩ (.int .i64 z)).setCell ⟨gn, 2, none⟩ (.int .i64 0)).setCell ⟨gn, 3, none⟩ (.int .i64 (d.gs z).2.1)) = w4 at *
  have hq := hgn2.out
  obtain ⟨l1, l2, l3, l4⟩ := LT.out
  refine bodyPost_ret (lres_row Tryd.results24 _ _ gn 26 #[.int .i64 2, .int .i64 z, .int .i64 0, .int .i64 (d.gs z).2.1] (0, 0) _ rfl N4.out Tryd.underlying26 rfl (by kernel_rfl)) rfl ?_
  exact ⟨rfl, R2.out.kept G4.out (by omega) (by omega) (by omega) (fun k hk => by have := l4 k hk; omega), gr_far G2.out G4.out hq⟩
end
end Go.Proofs.YtappgjdnfllblaaDoor
namespace Go.Proofs.YtappgjdnfllblaaDoor
open Go.RowKit Go.IntWalk Go.Maps Go.WideMaps
section
variable {w : World} {base b : Nat} {v : Value} {mh mg : Nat} {d : LDk}
set_option maxRecDepth 100000 in
set_option maxHeartbeats 1000000 in
theorem give_no (h : Ld w base b v mh mg d) (ok : d.Ok) {z unt now : Int} (hz : I64 z) (hu : I64 unt) (hn : -4398046511104 ≤ now ∧ now ≤ 4398046511104) (he : lAs d z true ≠ 0) : Calls Tryd.prog 19 #[.pointer (some ⟨b, 0, none⟩), .int .i64 z, .int .i64 unt, .int .i64 now] w fun e w' => e = .returned (.tuple #[noteC 0 0 0 0, .int .i64 (lAs d z true)]) ∧ Below w.heap.size w w' := by
  have HA := hid (fun W (hW : Below w.heap.size w W) => as_any (h.below hW) ok (z := z) true)
  generalize lAs d z true = er at *
  clear h ok hn hu
  go_enter Tryd.func19, Tryd.ntmps19
  go_upto_region 1 with fail
  have NZ := hid (Blk.new w 26 #[.int .i64 0, .int .i64 0, .int .i64 0, .int .i64 0])
  have B1 := hid (show Below w.heap.size w (w.alloc (Obj.cells #[.int .i64 0, .int .i64 0, .int .i64 0, .int .i64 0] 26)) by (repeat (first | exact Below.refl _ _ | assumption | refine below_drewN ?_ _ | refine Below.drew ?_ | refine Below.alloc ?_ (by (try simp); (try omega)) _ | refine Below.setCell ?_ (by (try simp); (try omega)) _)))
  have hgn := hid (Nat.le_refl w.heap.size)
  generalize (w.alloc (Obj.cells #[.int .i64 0, .int .i64 0, .int .i64 0, .int .i64 0] 26)) = w1 at *
  obtain ⟨gn, hgn'⟩ : ∃ gn, gn = w.heap.size := ⟨_, rfl⟩
  rw [← hgn'] at NZ
  rw [← hgn']
  have hgn2 := hid (Nat.le_of_eq hgn'.symm)
  clear hgn' hgn
  go_upto_region 2 with (go_at_call 65; refine (HA.out _ B1.out).mono ?_; rintro e wa ⟨rfl, hBa⟩)
  have Ba := hid (B1.out.trans (hBa.mono B1.out.size))
  have Na := hid (NZ.out.below hBa NZ.out.lt)
  have x0 := Na.out.cell 0; have x1 := Na.out.cell 1; have x2 := Na.out.cell 2; have x3 := Na.out.cell 3; have fz := Na.out.frozen
  simp at x0 x1 x2 x3
  clear hBa B1 NZ HA
  go_wp2_with fail
  have B4 := hid ((((Ba.out.setCell (p := ⟨gn, 0, none⟩) hgn2.out (.int .i64 0)).setCell (p := ⟨gn, 1, none⟩) hgn2.out (.int .i64 0)).setCell (p := ⟨gn, 2, none⟩) hgn2.out (.int .i64 0)).setCell (p := ⟨gn, 3, none⟩) hgn2.out (.int .i64 0))
  have N4 := hid ((((Na.out.set_ 0 (.int .i64 0)).set_ 1 (.int .i64 0)).set_ 2 (.int .i64 0)).set_ 3 (.int .i64 0))
  simp at N4
  clear x0 x1 x2 x3 fz Na
  generalize ((((wa.setCell ⟨gn, 0, none⟩ (.int .i64 0)).setCell ⟨gn, 1, none⟩ (.int .i64 0)).setCell ⟨gn, 2, none⟩ (.int .i64 0)).setCell ⟨gn, 3, none⟩ (.int .i64 0)) = w4 at *
  have x0 := N4.out.cell 0; have x1 := N4.out.cell 1; have x2 := N4.out.cell 2; have x3 := N4.out.cell 3
  simp at x0 x1 x2 x3
  refine bodyPost_ret (lres_row Tryd.results19 _ _ gn 26 #[.int .i64 0, .int .i64 0, .int .i64 0, .int .i64 0] (0, 0) _ rfl N4.out Tryd.underlying26 rfl (by kernel_rfl)) rfl ?_
  exact ⟨rfl, B4.out⟩
set_option maxRecDepth 100000 in
set_option maxHeartbeats 1000000 in
theorem give_r1 (h : Ld w base b v mh mg d) (ok : d.Ok) {z unt now : Int} (hz : I64 z) (hu : I64 unt) (hn : -4398046511104 ≤ now ∧ now ≤ 4398046511104) (he : lAs d z true = 0) (hs : unt ≤ now) : Calls Tryd.prog 19 #[.pointer (some ⟨b, 0, none⟩), .int .i64 z, .int .i64 unt, .int .i64 now] w fun e w' => e = .returned (.tuple #[noteC 0 0 0 0, .int .i64 3]) ∧ Below w.heap.size w w' := by
  have HA := hid (fun W (hW : Below w.heap.size w W) => as_any (h.below hW) ok (z := z) true)
  rw [he] at HA
  obtain ⟨n1, n2⟩ := hn
  have n3 : wrap64 (now + 1000) = now + 1000 := wrap64_in _ (by omega)
  have hp := hid (lAs_yes he)
  clear ok he
  go_enter Tryd.func19, Tryd.ntmps19
  go_upto_region 1 with fail
  have NZ := hid (Blk.new w 26 #[.int .i64 0, .int .i64 0, .int .i64 0, .int .i64 0])
  have B1 := hid (show Below w.heap.size w (w.alloc (Obj.cells #[.int .i64 0, .int .i64 0, .int .i64 0, .int .i64 0] 26)) by (repeat (first | exact Below.refl _ _ | assumption | refine below_drewN ?_ _ | refine Below.drew ?_ | refine Below.alloc ?_ (by (try simp); (try omega)) _ | refine Below.setCell ?_ (by (try simp); (try omega)) _)))
  have hgn := hid (Nat.le_refl w.heap.size)
  generalize (w.alloc (Obj.cells #[.int .i64 0, .int .i64 0, .int .i64 0, .int .i64 0] 26)) = w1 at *
  obtain ⟨gn, hgn'⟩ : ∃ gn, gn = w.heap.size := ⟨_, rfl⟩
  rw [← hgn'] at NZ
  rw [← hgn']
  have hgn2 := hid (Nat.le_of_eq hgn'.symm)
  clear hgn' hgn
  go_upto_region 2 with (go_at_call 65; refine (HA.out _ B1.out).mono ?_; rintro e wa ⟨rfl, hBa⟩)
  have Ba := hid (B1.out.trans (hBa.mono B1.out.size))
  have Na := hid (NZ.out.below hBa NZ.out.lt)
  have x0 := Na.out.cell 0; have x1 := Na.out.cell 1; have x2 := Na.out.cell 2; have x3 := Na.out.cell 3; have fz := Na.out.frozen
  simp at x0 x1 x2 x3
  clear hBa B1 NZ HA
  have HD := hid (h.below Ba.out)
  have hq := (h.below Ba.out).look hz
  obtain ⟨q2, -⟩ := hq
  obtain ⟨d0, d1, d2, d3⟩ := (h.below Ba.out).at_
  clear h
  go_upto_region 5 with fail
  obtain ⟨we, hwe⟩ : ∃ we, we = wa.alloc (Obj.cells #[.int .i64 (d.hs z).1, .int .i64 (d.hs z).2.1, .bool (d.hs z).2.2] 85) := ⟨_, rfl⟩
  have be := hid (show Below wa.heap.size wa we by rw [hwe]; (repeat (first | exact Below.refl _ _ | assumption | refine below_drewN ?_ _ | refine Below.drew ?_ | refine Below.alloc ?_ (by (try simp); (try omega)) _ | refine Below.setCell ?_ (by (try simp); (try omega)) _)))
  have ge := hid (show Blk we wa.heap.size 85 #[.int .i64 (d.hs z).1, .int .i64 (d.hs z).2.1, .bool (d.hs z).2.2] by rw [hwe]; exact Blk.new wa _ _)
  have NE := hid (Na.out.below be.out Na.out.lt)
  have Be := hid (Ba.out.trans (be.out.mono Ba.out.size))
  rw [← hwe]
  clear hwe q2 d0 d1 d2 d3 x0 x1 x2 x3 fz HD Na Ba be
  generalize wa.heap.size = gq at *
  have x0 := NE.out.cell 0; have x1 := NE.out.cell 1; have x2 := NE.out.cell 2; have x3 := NE.out.cell 3; have fz := NE.out.frozen
  have y0 := ge.out.cell 0
  simp at x0 x1 x2 x3 y0
  go_wp2_with fail
  have B4 := hid ((((Be.out.setCell (p := ⟨gn, 0, none⟩) hgn2.out (.int .i64 0)).setCell (p := ⟨gn, 1, none⟩) hgn2.out (.int .i64 0)).setCell (p := ⟨gn, 2, none⟩) hgn2.out (.int .i64 0)).setCell (p := ⟨gn, 3, none⟩) hgn2.out (.int .i64 0))
  have N4 := hid ((((NE.out.set_ 0 (.int .i64 0)).set_ 1 (.int .i64 0)).set_ 2 (.int .i64 0)).set_ 3 (.int .i64 0))
  simp at N4
  clear x0 x1 x2 x3 fz NE
  generalize ((((we.setCell ⟨gn, 0, none⟩ (.int .i64 0)).setCell ⟨gn, 1, none⟩ (.int .i64 0)).setCell ⟨gn, 2, none⟩ (.int .i64 0)).setCell ⟨gn, 3, none⟩ (.int .i64 0)) = w4 at *
  refine bodyPost_ret (lres_row Tryd.results19 _ _ gn 26 #[.int .i64 0, .int .i64 0, .int .i64 0, .int .i64 0] (0, 0) _ rfl N4.out Tryd.underlying26 rfl (by kernel_rfl)) rfl ?_
  exact ⟨rfl, B4.out⟩
set_option maxRecDepth 100000 in
set_option maxHeartbeats 1000000 in
theorem give_r2 (h : Ld w base b v mh mg d) (ok : d.Ok) {z unt now : Int} (hz : I64 z) (hu : I64 unt) (hn : -4398046511104 ≤ now ∧ now ≤ 4398046511104) (he : lAs d z true = 0) (h1 : now < unt) (hs : now + 1000 < unt) : Calls Tryd.prog 19 #[.pointer (some ⟨b, 0, none⟩), .int .i64 z, .int .i64 unt, .int .i64 now] w fun e w' => e = .returned (.tuple #[noteC 0 0 0 0, .int .i64 3]) ∧ Below w.heap.size w w' := by
  have HA := hid (fun W (hW : Below w.heap.size w W) => as_any (h.below hW) ok (z := z) true)
  rw [he] at HA
  obtain ⟨n1, n2⟩ := hn
  have n3 : wrap64 (now + 1000) = now + 1000 := wrap64_in _ (by omega)
  have hp := hid (lAs_yes he)
  clear ok he
  go_enter Tryd.func19, Tryd.ntmps19
  go_upto_region 1 with fail
  have NZ := hid (Blk.new w 26 #[.int .i64 0, .int .i64 0, .int .i64 0, .int .i64 0])
  have B1 := hid (show Below w.heap.size w (w.alloc (Obj.cells #[.int .i64 0, .int .i64 0, .int .i64 0, .int .i64 0] 26)) by (repeat (first | exact Below.refl _ _ | assumption | refine below_drewN ?_ _ | refine Below.drew ?_ | refine Below.alloc ?_ (by (try simp); (try omega)) _ | refine Below.setCell ?_ (by (try simp); (try omega)) _)))
  have hgn := hid (Nat.le_refl w.heap.size)
  generalize (w.alloc (Obj.cells #[.int .i64 0, .int .i64 0, .int .i64 0, .int .i64 0] 26)) = w1 at *
  obtain ⟨gn, hgn'⟩ : ∃ gn, gn = w.heap.size := ⟨_, rfl⟩
  rw [← hgn'] at NZ
  rw [← hgn']
  have hgn2 := hid (Nat.le_of_eq hgn'.symm)
  clear hgn' hgn
  go_upto_region 2 with (go_at_call 65; refine (HA.out _ B1.out).mono ?_; rintro e wa ⟨rfl, hBa⟩)
  have Ba := hid (B1.out.trans (hBa.mono B1.out.size))
  have Na := hid (NZ.out.below hBa NZ.out.lt)
  have x0 := Na.out.cell 0; have x1 := Na.out.cell 1; have x2 := Na.out.cell 2; have x3 := Na.out.cell 3; have fz := Na.out.frozen
  simp at x0 x1 x2 x3
  clear hBa B1 NZ HA
  have HD := hid (h.below Ba.out)
  have hq := (h.below Ba.out).look hz
  obtain ⟨q2, -⟩ := hq
  obtain ⟨d0, d1, d2, d3⟩ := (h.below Ba.out).at_
  clear h
  go_upto_region 5 with fail
  obtain ⟨we, hwe⟩ : ∃ we, we = wa.alloc (Obj.cells #[.int .i64 (d.hs z).1, .int .i64 (d.hs z).2.1, .bool (d.hs z).2.2] 85) := ⟨_, rfl⟩
  have be := hid (show Below wa.heap.size wa we by rw [hwe]; (repeat (first | exact Below.refl _ _ | assumption | refine below_drewN ?_ _ | refine Below.drew ?_ | refine Below.alloc ?_ (by (try simp); (try omega)) _ | refine Below.setCell ?_ (by (try simp); (try omega)) _)))
  have ge := hid (show Blk we wa.heap.size 85 #[.int .i64 (d.hs z).1, .int .i64 (d.hs z).2.1, .bool (d.hs z).2.2] by rw [hwe]; exact Blk.new wa _ _)
  have NE := hid (Na.out.below be.out Na.out.lt)
  have Be := hid (Ba.out.trans (be.out.mono Ba.out.size))
  rw [← hwe]
  clear hwe q2 d0 d1 d2 d3 x0 x1 x2 x3 fz HD Na Ba be
  generalize wa.heap.size = gq at *
  have x0 := NE.out.cell 0; have x1 := NE.out.cell 1; have x2 := NE.out.cell 2; have x3 := NE.out.cell 3; have fz := NE.out.frozen
  have y0 := ge.out.cell 0
  simp at x0 x1 x2 x3 y0
  go_wp2_with fail
  have B4 := hid ((((Be.out.setCell (p := ⟨gn, 0, none⟩) hgn2.out (.int .i64 0)).setCell (p := ⟨gn, 1, none⟩) hgn2.out (.int .i64 0)).setCell (p := ⟨gn, 2, none⟩) hgn2.out (.int .i64 0)).setCell (p := ⟨gn, 3, none⟩) hgn2.out (.int .i64 0))
  have N4 := hid ((((NE.out.set_ 0 (.int .i64 0)).set_ 1 (.int .i64 0)).set_ 2 (.int .i64 0)).set_ 3 (.int .i64 0))
  simp at N4
  clear x0 x1 x2 x3 fz NE
  generalize ((((we.setCell ⟨gn, 0, none⟩ (.int .i64 0)).setCell ⟨gn, 1, none⟩ (.int .i64 0)).setCell ⟨gn, 2, none⟩ (.int .i64 0)).setCell ⟨gn, 3, none⟩ (.int .i64 0)) = w4 at *
  refine bodyPost_ret (lres_row Tryd.results19 _ _ gn 26 #[.int .i64 0, .int .i64 0, .int .i64 0, .int .i64 0] (0, 0) _ rfl N4.out Tryd.underlying26 rfl (by kernel_rfl)) rfl ?_
  exact ⟨rfl, B4.out⟩
set_option maxRecDepth 100000 in
set_option maxHeartbeats 1000000 in
theorem give_busy (h : Ld w base b v mh mg d) (ok : d.Ok) {z unt now : Int} (hz : I64 z) (hu : I64 unt) (hn : -4398046511104 ≤ now ∧ now ≤ 4398046511104) (he : lAs d z true = 0) (h1 : now < unt) (h2 : unt ≤ now + 1000) (hs : unt < (d.hs z).1) : Calls Tryd.prog 19 #[.pointer (some ⟨b, 0, none⟩), .int .i64 z, .int .i64 unt, .int .i64 now] w fun e w' => e = .returned (.tuple #[noteC 0 0 0 0, .int .i64 8]) ∧ Below w.heap.size w w' := by
  have HA := hid (fun W (hW : Below w.heap.size w W) => as_any (h.below hW) ok (z := z) true)
  rw [he] at HA
  obtain ⟨n1, n2⟩ := hn
  have n3 : wrap64 (now + 1000) = now + 1000 := wrap64_in _ (by omega)
  have hm : max unt now = unt := by omega
  have hp := hid (lAs_yes he)
  clear ok he
  go_enter Tryd.func19, Tryd.ntmps19
  go_upto_region 1 with fail
  have NZ := hid (Blk.new w 26 #[.int .i64 0, .int .i64 0, .int .i64 0, .int .i64 0])
  have B1 := hid (show Below w.heap.size w (w.alloc (Obj.cells #[.int .i64 0, .int .i64 0, .int .i64 0, .int .i64 0] 26)) by (repeat (first | exact Below.refl _ _ | assumption | refine below_drewN ?_ _ | refine Below.drew ?_ | refine Below.alloc ?_ (by (try simp); (try omega)) _ | refine Below.setCell ?_ (by (try simp); (try omega)) _)))
  have hgn := hid (Nat.le_refl w.heap.size)
  generalize (w.alloc (Obj.cells #[.int .i64 0, .int .i64 0, .int .i64 0, .int .i64 0] 26)) = w1 at *
  obtain ⟨gn, hgn'⟩ : ∃ gn, gn = w.heap.size := ⟨_, rfl⟩
  rw [← hgn'] at NZ
  rw [← hgn']
  have hgn2 := hid (Nat.le_of_eq hgn'.symm)
  clear hgn' hgn
  go_upto_region 2 with (go_at_call 65; refine (HA.out _ B1.out).mono ?_; rintro e wa ⟨rfl, hBa⟩)
  have Ba := hid (B1.out.trans (hBa.mono B1.out.size))
  have Na := hid (NZ.out.below hBa NZ.out.lt)
  have x0 := Na.out.cell 0; have x1 := Na.out.cell 1; have x2 := Na.out.cell 2; have x3 := Na.out.cell 3; have fz := Na.out.frozen
  simp at x0 x1 x2 x3
  clear hBa B1 NZ HA
  have HD := hid (h.below Ba.out)
  have hq := (h.below Ba.out).look hz
  obtain ⟨q2, -⟩ := hq
  obtain ⟨d0, d1, d2, d3⟩ := (h.below Ba.out).at_
  clear h
  go_upto_region 5 with fail
  obtain ⟨we, hwe⟩ : ∃ we, we = wa.alloc (Obj.cells #[.int .i64 (d.hs z).1, .int .i64 (d.hs z).2.1, .bool (d.hs z).2.2] 85) := ⟨_, rfl⟩
  have be := hid (show Below wa.heap.size wa we by rw [hwe]; (repeat (first | exact Below.refl _ _ | assumption | refine below_drewN ?_ _ | refine Below.drew ?_ | refine Below.alloc ?_ (by (try simp); (try omega)) _ | refine Below.setCell ?_ (by (try simp); (try omega)) _)))
  have ge := hid (show Blk we wa.heap.size 85 #[.int .i64 (d.hs z).1, .int .i64 (d.hs z).2.1, .bool (d.hs z).2.2] by rw [hwe]; exact Blk.new wa _ _)
  have NE := hid (Na.out.below be.out Na.out.lt)
  have Be := hid (Ba.out.trans (be.out.mono Ba.out.size))
  rw [← hwe]
  clear hwe q2 d0 d1 d2 d3 x0 x1 x2 x3 fz HD Na Ba be
  generalize wa.heap.size = gq at *
  have x0 := NE.out.cell 0; have x1 := NE.out.cell 1; have x2 := NE.out.cell 2; have x3 := NE.out.cell 3; have fz := NE.out.frozen
  have y0 := ge.out.cell 0
  simp at x0 x1 x2 x3 y0
  go_wp2_with fail
  have B4 := hid ((((Be.out.setCell (p := ⟨gn, 0, none⟩) hgn2.out (.int .i64 0)).setCell (p := ⟨gn, 1, none⟩) hgn2.out (.int .i64 0)).setCell (p := ⟨gn, 2, none⟩) hgn2.out (.int .i64 0)).setCell (p := ⟨gn, 3, none⟩) hgn2.out (.int .i64 0))
  have N4 := hid ((((NE.out.set_ 0 (.int .i64 0)).set_ 1 (.int .i64 0)).set_ 2 (.int .i64 0)).set_ 3 (.int .i64 0))
  simp at N4
  clear x0 x1 x2 x3 fz NE
  generalize ((((we.setCell ⟨gn, 0, none⟩ (.int .i64 0)).setCell ⟨gn, 1, none⟩ (.int .i64 0)).setCell ⟨gn, 2, none⟩ (.int .i64 0)).setCell ⟨gn, 3, none⟩ (.int .i64 0)) = w4 at *
  refine bodyPost_ret (lres_row Tryd.results19 _ _ gn 26 #[.int .i64 0, .int .i64 0, .int .i64 0, .int .i64 0] (0, 0) _ rfl N4.out Tryd.underlying26 rfl (by kernel_rfl)) rfl ?_
  exact ⟨rfl, B4.out⟩
set_option maxRecDepth 100000 in
set_option maxHeartbeats 1000000 in
theorem give_yes (h : Ld w base b v mh mg d) (ok : d.Ok) {z unt now : Int} (hz : I64 z) (hu : I64 unt) (hn : -4398046511104 ≤ now ∧ now ≤ 4398046511104) (he : lAs d z true = 0) (h1 : now < unt) (h2 : unt ≤ now + 1000) (hs : (d.hs z).1 ≤ unt) : Calls Tryd.prog 19 #[.pointer (some ⟨b, 0, none⟩), .int .i64 z, .int .i64 unt, .int .i64 now] w fun e w' => e = .returned (.tuple #[noteC 1 z unt ((d.hs z).2.1 + 1), .int .i64 0]) ∧ Ld w' base b v mh mg (d.setH z (giveH (d.hs z) unt)) ∧ w.grownBy w' (some mh) := by
  have HA := hid (fun W (hW : Below w.heap.size w W) => as_any (h.below hW) ok (z := z) true)
  rw [he] at HA
  have hp := hid (lAs_yes he)
  have hgb := ok.hb z
  obtain ⟨-, g1, g2⟩ := hgb
  obtain ⟨n1, n2⟩ := hn
  have n3 : wrap64 (now + 1000) = now + 1000 := wrap64_in _ (by omega)
  have hm : max unt now = unt := by omega
  have hw : wrap64 ((d.hs z).2.1 + 1) = (d.hs z).2.1 + 1 := wrap64_in _ (by omega)
  have hl := hid ok.len
  clear g1 g2 ok he
  go_enter Tryd.func19, Tryd.ntmps19
  go_upto_region 1 with fail
  have NZ := hid (Blk.new w 26 #[.int .i64 0, .int .i64 0, .int .i64 0, .int .i64 0])
  have B1 := hid (show Below w.heap.size w (w.alloc (Obj.cells #[.int .i64 0, .int .i64 0, .int .i64 0, .int .i64 0] 26)) by (repeat (first | exact Below.refl _ _ | assumption | refine below_drewN ?_ _ | refine Below.drew ?_ | refine Below.alloc ?_ (by (try simp); (try omega)) _ | refine Below.setCell ?_ (by (try simp); (try omega)) _)))
  have hgn := hid (Nat.le_refl w.heap.size)
  generalize (w.alloc (Obj.cells #[.int .i64 0, .int .i64 0, .int .i64 0, .int .i64 0] 26)) = w1 at *
  obtain ⟨gn, hgn'⟩ : ∃ gn, gn = w.heap.size := ⟨_, rfl⟩
  rw [← hgn'] at NZ
  rw [← hgn']
  have hgn2 := hid (Nat.le_of_eq hgn'.symm)
  clear hgn' hgn
  go_upto_region 2 with (go_at_call 65; refine (HA.out _ B1.out).mono ?_; rintro e wa ⟨rfl, hBa⟩)
  have Ba := hid (B1.out.trans (hBa.mono B1.out.size))
  have Na := hid (NZ.out.below hBa NZ.out.lt)
  have x0 := Na.out.cell 0; have x1 := Na.out.cell 1; have x2 := Na.out.cell 2; have x3 := Na.out.cell 3; have fz := Na.out.frozen
  simp at x0 x1 x2 x3
  clear hBa B1 NZ HA
  have HD := hid (h.below Ba.out)
  have hq := (h.below Ba.out).look hz
  obtain ⟨q2, -⟩ := hq
  obtain ⟨d0, d1, d2, d3⟩ := (h.below Ba.out).at_
  have LT := hid (And.intro h.k.lt (And.intro h.h.lt (And.intro h.g.lt (fun k (hk : v.ownBlock = some k) => (h.r.lt k hk).2))))
  clear h
  go_upto_region 10 with fail
  obtain ⟨we, hwe⟩ : ∃ we, we = wa.alloc (Obj.cells #[.int .i64 unt, .int .i64 ((d.hs z).2.1 + 1), .bool false] 85) := ⟨_, rfl⟩
  have be := hid (show Below wa.heap.size wa we by rw [hwe]; (repeat (first | exact Below.refl _ _ | assumption | refine below_drewN ?_ _ | refine Below.drew ?_ | refine Below.alloc ?_ (by (try simp); (try omega)) _ | refine Below.setCell ?_ (by (try simp); (try omega)) _)))
  have ge := hid (show Blk we wa.heap.size 85 #[.int .i64 unt, .int .i64 ((d.hs z).2.1 + 1), .bool false] by rw [hwe]; exact Blk.new wa _ _)
  have HE := hid (HD.out.below be.out)
  have NE := hid (Na.out.below be.out Na.out.lt)
  have Be := hid (Ba.out.trans (be.out.mono Ba.out.size))
  rw [← hwe]
  clear hwe q2 d0 d1 d2 d3 x0 x1 x2 x3 fz HD Na Ba be
  generalize wa.heap.size = gq at *
  have HSF := hid (fun (wq : World) (hq : Below we.heap.size we wq) => And.intro (HE.out.below hq).at_.2.2.1 (And.intro ((ge.out.below hq ge.out.lt).cell 0) (And.intro ((ge.out.below hq ge.out.lt).cell 1) ((ge.out.below hq ge.out.lt).cell 2))))
  have BD := hid ((Below.refl we.heap.size we).drew)
  refine wpIn_wide.1 (wpIn_region_S (n := 0) (fun wq => Below we.heap.size we wq) [6] (by kernel_rfl) BD.out (fun hHeld => ?_))
  generalize we.drew = wd at *
  refine wpAnyS_pure 0 (v := ?_) (fun _ => trivial) (by simp only [List.getElem?_toArray, List.getElem?_cons_succ, List.getElem?_cons_zero]; rfl) (by kernel_rfl) (fun _ _ _ _ _ h => h) ⟨rfl, (by intro c h; cases h), ?_⟩ hHeld ?_
  rotate_left
  focus (intro wS hSw; (try replace hSw := HSF.out wS hSw); (try dsimp only at hSw); go_simp; (try with_reducible rfl))
  (try simp only [Act.put, List.setIfInBounds_toArray, List.set_cons_zero, List.set_cons_succ])
  refine wpAnyS_take 1 (v := ?_) (fun _ => trivial) (by simp only [List.getElem?_toArray, List.getElem?_cons_succ, List.getElem?_cons_zero]; rfl) (by kernel_rfl) (fun _ _ _ _ _ h => h) ⟨rfl, (by intro c h; cases h), ?_⟩ hHeld ?_
  rotate_left
  focus (intro wS hSw; (try replace hSw := HSF.out wS hSw); (try dsimp only at hSw); go_simp; (try with_reducible rfl))
  (try simp only [Act.put, List.setIfInBounds_toArray, List.set_cons_zero, List.set_cons_succ])
  refine wpAnyS_pure 2 (v := ?_) (fun _ => trivial) (by simp only [List.getElem?_toArray, List.getElem?_cons_succ, List.getElem?_cons_zero]; rfl) (by kernel_rfl) (fun _ _ _ _ _ h => h) ⟨rfl, (by intro c h; cases h), ?_⟩ hHeld ?_
  rotate_left
  focus (intro wS hSw; (try replace hSw := HSF.out wS hSw); (try dsimp only at hSw); go_simp; (try with_reducible rfl))
  (try simp only [Act.put, List.setIfInBounds_toArray, List.set_cons_zero, List.set_cons_succ])
  refine wpAnyS_take 3 (v := ?_) (fun _ => trivial) (by simp only [List.getElem?_toArray, List.getElem?_cons_succ, List.getElem?_cons_zero]; rfl) (by kernel_rfl) (fun _ _ _ _ _ h => h) ⟨rfl, (by intro c h; cases h), ?_⟩ hHeld ?_
  rotate_left
  focus (intro wS hSw; (try replace hSw := HSF.out wS hSw); (try dsimp only at hSw); go_simp; (try with_reducible rfl))
  (try simp only [Act.put, List.setIfInBounds_toArray, List.set_cons_zero, List.set_cons_succ])
  refine wpAnyS_pure 4 (v := ?_) (fun _ => trivial) (by simp only [List.getElem?_toArray, List.getElem?_cons_succ, List.getElem?_cons_zero]; rfl) (by kernel_rfl) (fun _ _ _ _ _ h => h) ⟨rfl, (by intro c h; cases h), ?_⟩ hHeld ?_
  rotate_left
  focus (intro wS hSw; (try replace hSw := HSF.out wS hSw); (try dsimp only at hSw); go_simp; (try with_reducible rfl))
  (try simp only [Act.put, List.setIfInBounds_toArray, List.set_cons_zero, List.set_cons_succ])
  refine wpAnyS_take 5 (v := ?_) (fun _ => trivial) (by simp only [List.getElem?_toArray, List.getElem?_cons_succ, List.getElem?_cons_zero]; rfl) (by kernel_rfl) (fun _ _ _ _ _ h => h) ⟨rfl, (by intro c h; cases h), ?_⟩ hHeld ?_
  rotate_left
  focus (intro wS hSw; (try replace hSw := HSF.out wS hSw); (try dsimp only at hSw); go_simp; (try with_reducible rfl))
  (try simp only [Act.put, List.setIfInBounds_toArray, List.set_cons_zero, List.set_cons_succ])
  obtain ⟨w2, r1, r2, r3⟩ := (HE.out.below BD.out).putH hz hp.out hl.out (giveH (d.hs z) unt)
  have R2 := hid r2
  have R3 := hid r3
  have N2 := hid ((NE.out.below BD.out NE.out.lt).grown r3 (by simpa using (HE.out.below BD.out).h.apart (NE.out.below BD.out NE.out.lt)))
  clear r2 r3 NE
  simp only [giveH] at r1
  refine wpAnyS_ready [6] (by kernel_rfl) (by simp) (AllReadyS.consL (by simp only [List.getElem?_toArray, List.getElem?_cons_succ, List.getElem?_cons_zero]; rfl) rfl (by kernel_rfl) (fun K hK => ?_) AllReadyS.nil)
  go_simp
  refine hK.out _ _ ?_
  (try simp only [Act.put, List.setIfInBounds_toArray, List.set_cons_zero, List.set_cons_succ])
  refine wpAnyS_done (by kernel_rfl) ?_
  have x0 := N2.out.cell 0; have x1 := N2.out.cell 1; have x2 := N2.out.cell 2; have x3 := N2.out.cell 3; have fz := N2.out.frozen
  simp at x0 x1 x2 x3
  have y3 := ((ge.out.below BD.out ge.out.lt).grown R3.out (by simpa using (HE.out.below BD.out).h.apart (ge.out.below BD.out ge.out.lt))).cell 1
  simp at y3
  have G2 := hid (gr_tr (gr_tr (gr_below Be.out (some mh)) (gr_below BD.out (some mh))) R3.out)
  clear hK HSF hHeld r1 HE ge BD R3 Be
  go_wp2_with fail
  have G4 := hid (gr_tr (gr_tr (gr_tr (gr_set w2 gn 0 (.int .i64 1)) (gr_set _ gn 1 (.int .i64 z))) (gr_set _ gn 2 (.int .i64 unt))) (gr_set _ gn 3 (.int .i64 ((d.hs z).2.1 + 1))))
  have N4 := hid ((((N2.out.set_ 0 (.int .i64 1)).set_ 1 (.int .i64 z)).set_ 2 (.int .i64 unt)).set_ 3 (.int .i64 ((d.hs z).2.1 + 1)))
  simp at N4
  clear x0 x1 x2 x3 fz N2 y3
  generalize ((((w2.setCell ⟨gn, 0, none⟩ (.int .i64 1)).setCell ⟨gn, 1, none⟩ (.int .i64 z)).setCell ⟨gn, 2, none⟩ (.int .i64 unt)).setCell ⟨gn, 3, none⟩ (.int .i64 ((d.hs z).2.1 + 1))) = w4 at *
  have hq := hgn2.out
  obtain ⟨l1, l2, l3, l4⟩ := LT.out
  refine bodyPost_ret (lres_row Tryd.results19 _ _ gn 26 #[.int .i64 1, .int .i64 z, .int .i64 unt, .int .i64 ((d.hs z).2.1 + 1)] (0, 0) _ rfl N4.out Tryd.underlying26 rfl (by kernel_rfl)) rfl ?_
  exact ⟨rfl, R2.out.kept G4.out (by omega) (by omega) (by omega) (fun k hk => by have := l4 k hk; omega), gr_far G2.out G4.out hq⟩
end
end Go.Proofs.YtappgjdnfllblaaDoor
namespace Go.Proofs.YtappgjdnfllblaaDoor
open Go.RowKit Go.IntWalk Go.Maps Go.WideMaps
section
variable {w : World} {base b : Nat} {v : Value} {mh mg : Nat} {d : LDk}
set_option maxRecDepth 100000 in
set_option maxHeartbeats 1000000 in
theorem hear_k1 (k z u n : Int) (hk : k < 0) : Calls Tryd.prog 17 #[.pointer (some ⟨b, 0, none⟩), .agg #[.int .i64 k, .int .i64 z, .int .i64 u, .int .i64 n]] w fun e w' => e = .returned (.int .i64 4) ∧ Below w.heap.size w w' := by
  go_enter Tryd.func17, Tryd.ntmps17
  go_wp2_with fail
  go_ret
  exact ⟨rfl, by (repeat (first | exact Below.refl _ _ | assumption | refine below_drewN ?_ _ | refine Below.drew ?_ | refine Below.alloc ?_ (by (try simp); (try omega)) _ | refine Below.setCell ?_ (by (try simp); (try omega)) _))⟩
set_option maxRecDepth 100000 in
set_option maxHeartbeats 1000000 in
theorem hear_k2 (k z u n : Int) (h0 : 0 ≤ k) (hk : 3 ≤ k) : Calls Tryd.prog 17 #[.pointer (some ⟨b, 0, none⟩), .agg #[.int .i64 k, .int .i64 z, .int .i64 u, .int .i64 n]] w fun e w' => e = .returned (.int .i64 4) ∧ Below w.heap.size w w' := by
  go_enter Tryd.func17, Tryd.ntmps17
  go_wp2_with fail
  go_ret
  exact ⟨rfl, by (repeat (first | exact Below.refl _ _ | assumption | refine below_drewN ?_ _ | refine Below.drew ?_ | refine Below.alloc ?_ (by (try simp); (try omega)) _ | refine Below.setCell ?_ (by (try simp); (try omega)) _))⟩
set_option maxRecDepth 100000 in
set_option maxHeartbeats 1000000 in
theorem hear_as (h : Ld w base b v mh mg d) (ok : d.Ok) (k z u n : Int) (h0 : 0 ≤ k) (hk : k < 3) (he : lAs d z (decide (k ≠ 1)) ≠ 0) : Calls Tryd.prog 17 #[.pointer (some ⟨b, 0, none⟩), .agg #[.int .i64 k, .int .i64 z, .int .i64 u, .int .i64 n]] w fun e w' => e = .returned (.int .i64 (lAs d z (decide (k ≠ 1)))) ∧ Below w.heap.size w w' := by
  have hb1 : (k != 1) = decide (k ≠ 1) := by by_cases e : k = 1 <;> simp [e]
  have HA := hid (fun W (hW : Below w.heap.size w W) => as_any (h.below hW) ok (z := z) (decide (k ≠ 1)))
  rw [← hb1] at HA he
  rw [← hb1]
  generalize lAs d z (k != 1) = er at *
  clear h ok hb1
  go_enter Tryd.func17, Tryd.ntmps17
  go_upto_region 3 with fail
  have B1 := hid (show Below w.heap.size w (w.alloc (Obj.cells #[.int .i64 k, .int .i64 z, .int .i64 u, .int .i64 n] 26)) by (repeat (first | exact Below.refl _ _ | assumption | refine below_drewN ?_ _ | refine Below.drew ?_ | refine Below.alloc ?_ (by (try simp); (try omega)) _ | refine Below.setCell ?_ (by (try simp); (try omega)) _)))
  go_upto_region 4 with (go_at_call 65; refine (HA.out _ B1.out).mono ?_; rintro e wa ⟨rfl, hBa⟩)
  have Ba := hid (B1.out.trans (hBa.mono B1.out.size))
  clear hBa B1 HA
  go_wp2_with fail
  go_ret
  exact ⟨rfl, Ba.out⟩
end
end Go.Proofs.YtappgjdnfllblaaDoor
namespace Go.Proofs.YtappgjdnfllblaaDoor
open Go.RowKit Go.IntWalk Go.Maps Go.WideMaps
/-- The zones below k of which p holds. -/
def upToP (p : Int → Bool) : Nat → List Int
  | 0 => []
  | k + 1 => upToP p k ++ if p k then [(k : Int)] else []
theorem upToP_le (p : Int → Bool) : ∀ k, (upToP p k).length ≤ k
  | 0 => Nat.le_refl _
  | k + 1 => by
    have := upToP_le p k
    unfold upToP
    rw [List.length_append]
    split <;> simp <;> omega
theorem cell1_newL (W : World) (x : Int) : ∀ (j : Nat) (u : Value), ([x].map (Value.int .i64))[j]? = some u → (W.alloc (Obj.cells #[.int .i64 x] 3)).cell? ((⟨W.heap.size, 0, none⟩ : Addr).add j) = some u := by
  intro j u hu
  match j, hu with
  | 0, hu => simp at hu; subst hu; simp [Addr.add, go_sem]
  | j + 1, hu => simp at hu
section
variable {w : World} {base b : Nat} {v : Value} {mh mg : Nat} {d : LDk}
set_option maxRecDepth 100000 in
set_option maxHeartbeats 2000000 in
theorem sure_any (h : Ld w base b v mh mg d) (ok : d.Ok) {now : Int} (hn : -4398046511104 ≤ now ∧ now ≤ 4398046511104) : Calls Tryd.prog 34 #[.pointer (some ⟨b, 0, none⟩), .int .i64 now] w fun e w' => ∃ A c, e = .returned (.slice A (upToP (fun z => lHolds d z now) d.home.length).length c) ∧ OwnI w' w.heap.size (.slice A (upToP (fun z => lHolds d z now) d.home.length).length c) (upToP (fun z => lHolds d z now) d.home.length) ∧ Below w.heap.size w w' := by
  have HH := hid (fun W (hW : Below w.heap.size w W) (k : Nat) (hk : k < d.home.length) => holds_any (h.below hW) ok (z := (k : Int)) (now := now) (by have := ok.len; constructor <;> omega) hn)
  obtain ⟨d0, d1, d2, d3⟩ := h.at_
  obtain ⟨A0, c0, rfl, -⟩ := h.r.form
  have hlen := ok.len
  have HS := hid (fun k => show upToP (fun z => lHolds d z now) (k + 1) = upToP (fun z => lHolds d z now) k ++ (if lHolds d (k : Nat) now then [((k : Nat) : Int)] else []) from rfl)
  have HLe := hid (upToP_le (fun z => lHolds d z now))
  have H0 := hid (show upToP (fun z => lHolds d z now) 0 = [] from rfl)
  generalize upToP (fun z => lHolds d z now) = F at *
  generalize hN : d.home.length = N at *
  clear h ok hn hN
  go_enter Tryd.func34, Tryd.ntmps34
  go_wp2_with fail
  go_loopw [12, 5] (fun x s wr => ∃ (k : Nat) (A : Option Addr) (c : Nat), x = .int .i64 (k : Nat) ∧ k ≤ N ∧ s = .slice A (F k).length c ∧ OwnI wr w.heap.size (.slice A (F k).length c) (F k) ∧ Below w.heap.size w wr) (fun x _ _ => N - (intOf x).toNat)
  case atStart => exact ⟨0, none, 0, rfl, Nat.zero_le _, by rw [H0.out]; rfl, by rw [H0.out]; exact OwnI.nil _ _, Below.refl _ _⟩
  case round =>
    obtain ⟨k, A, c, rfl, hk, rfl, ho, hB⟩ := hrel
    have HB := hid hB
    have HO := hid ho
    have hF := HLe.out k
    clear hB ho
    by_cases hkn : k < N
    · have hk1 : wrap64 ((k : Int) + 1) = ((k + 1 : Nat) : Int) := by rw [wrap64_in _ (by omega)]; simp
      have HC := hid (HH.out wr HB.out k hkn)
      have HSk := hid (HS.out k)
      have hsz := hid HB.out.size
      cases hL : lHolds d (k : Int) now with
      | false =>
        rw [hL] at HC HSk
        have HE := hid (show F (k + 1) = F k by rw [HSk.out]; simp)
        clear hL HSk
        go_wp2_with (go_at_call 29; refine HC.out.mono ?_; rintro e w5 ⟨rfl, hB5⟩)
        go_roundw
        case rel => exact ⟨k + 1, A, c, by simp [hk1], hkn, by rw [HE.out], by rw [HE.out]; exact HO.out.below hB5, HB.out.trans (hB5.mono HB.out.size)⟩
        case measure => simp [intOf, hk1]; omega
      | true =>
        rw [hL] at HC HSk
        have HE := hid (show F (k + 1) = F k ++ [(k : Int)] by rw [HSk.out]; simp)
        clear hL HSk
        go_upto_region 6 with (go_at_call 29; refine HC.out.mono ?_; rintro e w5 ⟨rfl, hB5⟩)
        have B5 := hid (HB.out.trans (hB5.mono HB.out.size))
        have O5 := hid (HO.out.below hB5)
        have s5 := hid B5.out.size
        clear hB5 HB HO HC hsz
        go_wp2_with (at_builtin; go_loud (refine wp_appI _ rfl (.tmp 19) (.tmp 21) rfl w.heap.size _ _ rfl (O5.out.alloc _) _ _ [(k : Int)] rfl (cell1_newL _ _) (by simp; omega) (by have := s5.out; simp; omega) ?_; intro v1 w6 ho1 hg6 hat1))
        have B6 := hid (show Below w.heap.size w w6 from (B5.out.alloc B5.out.size _).grown hg6 (by have := s5.out; simp; omega) (fun g hg => (O5.out.lt g hg).1))
        rw [← HE.out] at ho1
        obtain ⟨A6, c6, rfl, -⟩ := ho1.form
        go_roundw
        case rel => exact ⟨k + 1, A6, c6, by simp [hk1], hkn, rfl, ho1, B6.out⟩
        case measure => simp [intOf, hk1]; omega
    · have hkN : k = N := by omega
      subst hkN
      go_wp2_with fail
      go_ret
      exact ⟨A, c, rfl, HO.out, HB.out⟩
end
end Go.Proofs.YtappgjdnfllblaaDoor
namespace Go.Proofs.YtappgjdnfllblaaDoor
open Go.RowKit Go.IntWalk Go.Maps Go.WideMaps
theorem fieldHost2 (W : World) (x y z : Value) : (Instr.field 85 (.agg #[x, y, z]) 2).run Tryd.prog W = .ok z W := by kernel_rfl
section
variable {w : World} {base b : Nat} {v : Value} {mh mg : Nat} {d : LDk}
set_option maxRecDepth 100000 in
set_option maxHeartbeats 2000000 in
theorem wishes_any (h : Ld w base b v mh mg d) (ok : d.Ok) : Calls Tryd.prog 36 #[.pointer (some ⟨b, 0, none⟩)] w fun e w' => ∃ A c, e = .returned (.slice A (upToP (fun z => (d.hs z).2.2) d.home.length).length c) ∧ OwnI w' w.heap.size (.slice A (upToP (fun z => (d.hs z).2.2) d.home.length).length c) (upToP (fun z => (d.hs z).2.2) d.home.length) ∧ Below w.heap.size w w' := by
  have HH := hid (fun W (hW : Below w.heap.size w W) (k : Nat) (hk : k < d.home.length) => And.intro (h.below hW).at_.2.2.1 ((h.below hW).look (z := (k : Int)) (by have := ok.len; constructor <;> omega)).1)
  have f2 := fieldHost2
  obtain ⟨d0, d1, d2, d3⟩ := h.at_
  obtain ⟨A0, c0, rfl, -⟩ := h.r.form
  have hlen := ok.len
  have HS := hid (fun k => show upToP (fun z => (d.hs z).2.2) (k + 1) = upToP (fun z => (d.hs z).2.2) k ++ (if (d.hs (k : Nat)).2.2 then [((k : Nat) : Int)] else []) from rfl)
  have HLe := hid (upToP_le (fun z => (d.hs z).2.2))
  have H0 := hid (show upToP (fun z => (d.hs z).2.2) 0 = [] from rfl)
  generalize upToP (fun z => (d.hs z).2.2) = F at *
  generalize hN : d.home.length = N at *
  clear h ok hN
  go_enter Tryd.func36, Tryd.ntmps36
  go_wp2_with fail
  go_loopw [10, 3] (fun x s wr => ∃ (k : Nat) (A : Option Addr) (c : Nat), x = .int .i64 (k : Nat) ∧ k ≤ N ∧ s = .slice A (F k).length c ∧ OwnI wr w.heap.size (.slice A (F k).length c) (F k) ∧ Below w.heap.size w wr) (fun x _ _ => N - (intOf x).toNat)
  case atStart => exact ⟨0, none, 0, rfl, Nat.zero_le _, by rw [H0.out]; rfl, by rw [H0.out]; exact OwnI.nil _ _, Below.refl _ _⟩
  case round =>
    obtain ⟨k, A, c, rfl, hk, rfl, ho, hB⟩ := hrel
    have HB := hid hB
    have HO := hid ho
    have hF := HLe.out k
    clear hB ho
    by_cases hkn : k < N
    · have hk1 : wrap64 ((k : Int) + 1) = ((k + 1 : Nat) : Int) := by rw [wrap64_in _ (by omega)]; simp
      obtain ⟨HC1, HC⟩ := HH.out wr HB.out k hkn
      have HSk := hid (HS.out k)
      have hsz := hid HB.out.size
      cases hL : (d.hs (k : Int)).2.2 with
      | false =>
        rw [hL] at HC HSk
        have HE := hid (show F (k + 1) = F k by rw [HSk.out]; simp)
        clear hL HSk
        go_wp2_with fail
        go_roundw
        case rel => exact ⟨k + 1, A, c, by simp [hk1], hkn, by rw [HE.out], by rw [HE.out]; exact HO.out, HB.out⟩
        case measure => simp [intOf, hk1]; omega
      | true =>
        rw [hL] at HC HSk
        have HE := hid (show F (k + 1) = F k ++ [(k : Int)] by rw [HSk.out]; simp)
        clear hL HSk
        go_upto_region 6 with fail
        have B5 := hid HB.out
        have O5 := hid HO.out
        have s5 := hid B5.out.size
        clear HB HO HC HC1 hsz
        go_wp2_with (at_builtin; go_loud (refine wp_appI _ rfl (.tmp 20) (.tmp 22) rfl w.heap.size _ _ rfl (O5.out.alloc _) _ _ [(k : Int)] rfl (cell1_newL _ _) (by simp; omega) (by have := s5.out; simp; omega) ?_; intro v1 w6 ho1 hg6 hat1))
        have B6 := hid (show Below w.heap.size w w6 from (B5.out.alloc B5.out.size _).grown hg6 (by have := s5.out; simp; omega) (fun g hg => (O5.out.lt g hg).1))
        rw [← HE.out] at ho1
        obtain ⟨A6, c6, rfl, -⟩ := ho1.form
        go_roundw
        case rel => exact ⟨k + 1, A6, c6, by simp [hk1], hkn, rfl, ho1, B6.out⟩
        case measure => simp [intOf, hk1]; omega
    · have hkN : k = N := by omega
      subst hkN
      go_wp2_with fail
      go_ret
      exact ⟨A, c, rfl, HO.out, HB.out⟩
end
end Go.Proofs.YtappgjdnfllblaaDoor
namespace Go.Proofs.YtappgjdnfllblaaDoor
open Go.RowKit Go.IntWalk Go.Maps Go.WideMaps
/-- The numbers of a zone. -/
def numsL (d : LDk) (z : Int) : List Int := if d.hp z then [(d.hs z).1, (d.hs z).2.1, if (d.hs z).2.2 then 1 else 0] else [(d.gs z).1, (d.gs z).2.1, (d.gs z).2.2.1, (d.gs z).2.2.2]
section
variable {w : World} {base b : Nat} {v : Value} {mh mg : Nat} {d : LDk}
set_option maxRecDepth 100000 in
set_option maxHeartbeats 1000000 in
theorem numbers_any (h : Ld w base b v mh mg d) {z : Int} (hz : I64 z) : Calls Tryd.prog 56 #[.pointer (some ⟨b, 0, none⟩), .int .i64 z] w fun e w' => ∃ A c, e = .returned (.slice A (numsL d z).length c) ∧ OwnI w' w.heap.size (.slice A (numsL d z).length c) (numsL d z) ∧ Below w.heap.size w w' := by
  obtain ⟨d0, d1, d2, d3⟩ := h.at_
  obtain ⟨q1, -⟩ := h.look2 hz
  cases hp : d.hp z with
  | true =>
    rw [hp] at q1
    cases ha : (d.hs z).2.2 with
    | true =>
      rw [ha] at q1
      have HR : numsL d z = [(d.hs z).1, (d.hs z).2.1, 1] := by unfold numsL; rw [hp, ha]; rfl
      rw [HR]
      clear hp ha HR
      go_enter Tryd.func56, Tryd.ntmps56
      go_wp2_with fail
      go_ret
      exact ⟨_, 3, rfl, OwnI.fresh (l := [(d.hs z).1, (d.hs z).2.1, 1]) (by have := Blk.new (w.alloc (Obj.cells #[.int .i64 (d.hs z).1, .int .i64 (d.hs z).2.1, .bool true] 85)) 3 #[.int .i64 (d.hs z).1, .int .i64 (d.hs z).2.1, .int .i64 1]; simpa using this) (by omega) (by simp [maxLen]), by (repeat (first | exact Below.refl _ _ | assumption | refine below_drewN ?_ _ | refine Below.drew ?_ | refine Below.alloc ?_ (by (try simp); (try omega)) _ | refine Below.setCell ?_ (by (try simp); (try omega)) _))⟩
    | false =>
      rw [ha] at q1
      have HR : numsL d z = [(d.hs z).1, (d.hs z).2.1, 0] := by unfold numsL; rw [hp, ha]; rfl
      rw [HR]
      clear hp ha HR
      go_enter Tryd.func56, Tryd.ntmps56
      go_wp2_with fail
      go_ret
      exact ⟨_, 3, rfl, OwnI.fresh (l := [(d.hs z).1, (d.hs z).2.1, 0]) (by have := Blk.new (w.alloc (Obj.cells #[.int .i64 (d.hs z).1, .int .i64 (d.hs z).2.1, .bool false] 85)) 3 #[.int .i64 (d.hs z).1, .int .i64 (d.hs z).2.1, .int .i64 0]; simpa using this) (by omega) (by simp [maxLen]), by (repeat (first | exact Below.refl _ _ | assumption | refine below_drewN ?_ _ | refine Below.drew ?_ | refine Below.alloc ?_ (by (try simp); (try omega)) _ | refine Below.setCell ?_ (by (try simp); (try omega)) _))⟩
  | false =>
    rw [hp] at q1
    have HR : numsL d z = [(d.gs z).1, (d.gs z).2.1, (d.gs z).2.2.1, (d.gs z).2.2.2] := by unfold numsL; rw [hp]; rfl
    rw [HR]
    have HL := hid (fun W (hW : Below w.heap.size w W) => And.intro (h.below hW).at_ ((h.below hW).look hz).2)
    clear hp h HR
    go_enter Tryd.func56, Tryd.ntmps56
    go_upto_region 7 with fail
    have B4 := hid (show Below w.heap.size w (w.alloc (Obj.cells #[.int .i64 (d.hs z).1, .int .i64 (d.hs z).2.1, .bool (d.hs z).2.2] 85)) by (repeat (first | exact Below.refl _ _ | assumption | refine below_drewN ?_ _ | refine Below.drew ?_ | refine Below.alloc ?_ (by (try simp); (try omega)) _ | refine Below.setCell ?_ (by (try simp); (try omega)) _)))
    obtain ⟨⟨e0, e1, e2, e3⟩, r2⟩ := HL.out _ B4.out
    clear q1 d0 d1 d2 d3 HL
    generalize (w.alloc (Obj.cells #[.int .i64 (d.hs z).1, .int .i64 (d.hs z).2.1, .bool (d.hs z).2.2] 85)) = w4 at *
    go_wp2_with fail
    go_ret
    exact ⟨_, 4, rfl, OwnI.fresh (l := [(d.gs z).1, (d.gs z).2.1, (d.gs z).2.2.1, (d.gs z).2.2.2]) (by have := Blk.new (w4.alloc (Obj.cells #[.int .i64 (d.gs z).1, .int .i64 (d.gs z).2.1, .int .i64 (d.gs z).2.2.1, .int .i64 (d.gs z).2.2.2] 87)) 3 #[.int .i64 (d.gs z).1, .int .i64 (d.gs z).2.1, .int .i64 (d.gs z).2.2.1, .int .i64 (d.gs z).2.2.2]; simpa using this) (by have := B4.out.size; omega) (by simp [maxLen]), (B4.out.alloc B4.out.size _).alloc (by have := B4.out.size; simp; omega) _⟩
end
end Go.Proofs.YtappgjdnfllblaaDoor
namespace Go.Proofs.YtappgjdnfllblaaDoor
open Go.RowKit Go.IntWalk

theorem slr_none {w : World} {B : Nat} {l : List Int} (h : SlR w B none l) : l = [] := by
  cases l with
  | nil => rfl
  | cons x l => obtain ⟨b, off, hA, _⟩ := h.int (k := 0) (by simp); cases hA
set_option maxRecDepth 100000 in
set_option maxHeartbeats 1000000 in
theorem sclone_own (A : Option Addr) (c : Nat) (l : List Int) (w : World) (hl : l.length ≤ 65536) (hs : SlR w w.heap.size A l) :
    Calls Tryd.prog 61 #[.slice A l.length c] w fun e w' => ∃ v, e = .returned v ∧ OwnI w' w.heap.size v l ∧ Below w.heap.size w w' := by
  have hn1 := fun W => Lib.run_eql_slice_nil (P := Tryd.prog) W 46 3 A l.length c 0 0 Tryd.underlying46
  cases A with
  | none =>
    have hl0 := slr_none hs
    subst hl0
    simp only [Option.isNone_none, List.length_nil] at hn1
    go_enter Tryd.func61, Tryd.ntmps61
    go_wp2
    go_ret
    exact ⟨_, rfl, OwnI.nil _ _, Below.refl _ _⟩
  | some ad =>
    simp only [Option.isNone_some] at hn1
    have hints := hid hs.ints
    have hcell : Hid (∀ (j : Nat) (u : Value), (l.map (Value.int .i64))[j]? = some u → w.cell? (ad.add j) = some u) := by
      intro j u hu
      have hpos : 0 < l.length := by
        cases l with
        | nil => simp at hu
        | cons x l => simp
      obtain ⟨b, off, hA, _, hc⟩ := hs.int_cells hpos
      injection hA with hA
      rw [hA]; exact hc j u hu
    have hbl : Hid (∀ (j : Nat) (u : Value), (l.map (Value.int .i64))[j]? = some u → (w.alloc (Obj.cells #[] 3)).cell? (ad.add j) = some u) := fun j u hu => by
      have := hcell.out j u hu
      rw [← this]
      exact World.cell?_alloc_lt w _ _ (by have := cell_lt this; exact this.1)
    have hown : Hid (OwnI (w.alloc (Obj.cells #[] 3)) w.heap.size (.slice (some ⟨w.heap.size, 0, none⟩) 0 0) []) := OwnI.fresh (l := []) (Blk.new w _ _) (Nat.le_refl _) (by simp)
    go_enter Tryd.func61, Tryd.ntmps61
    go_wp2_with (at_builtin; refine wp_appI _ rfl (.tmp 5) (.tmp 6) rfl w.heap.size (.slice (some ⟨w.heap.size, 0, none⟩) 0 0) [] rfl hown.out ad c l rfl hbl.out (by simp; omega) (by simp) ?_; intro v1 w1 ho1 hg1 hat1)
    clear hn1
    go_wp2
    go_ret
    refine ⟨_, rfl, by simpa using ho1, ?_⟩
    refine ((Below.refl _ w).alloc (Nat.le_refl _) _).grown hg1 (by simp) ?_
    intro k hk
    have hk' : some w.heap.size = some k := hk
    injection hk' with e
    omega

end Go.Proofs.YtappgjdnfllblaaDoor
namespace Go.Proofs.YtappgjdnfllblaaDoor
open Go.RowKit Go.IntWalk

/-- The first index, from k on, at which the test holds; -1. -/
def firstBad (p : Int → Bool) : List Int → Nat → Int
  | [], _ => -1
  | x :: l, k => if p x then k else firstBad p l (k+1)
theorem firstBad_step {p : Int → Bool} {l : List Int} {k : Nat} (h : k < l.length) : firstBad p (l.drop k) k = if p l[k] then (k:Int) else firstBad p (l.drop (k+1)) (k+1) := by
  rw [List.drop_eq_getElem_cons h]; rfl
theorem firstBad_nonneg (p : Int → Bool) : ∀ (l : List Int) (k : Nat), decide (0 ≤ firstBad p l k) = l.any p
  | [], _ => rfl
  | x :: l, k => by
    have ih := firstBad_nonneg p l (k+1)
    by_cases h : p x = true
    · have e : firstBad p (x :: l) k = k := by rw [firstBad, if_pos h]
      rw [e, List.any_cons, h]; simp
    · have e : firstBad p (x :: l) k = firstBad p l (k+1) := by rw [firstBad, if_neg h]
      simp only [Bool.not_eq_true] at h
      rw [e, List.any_cons, h, ih]; simp
set_option maxRecDepth 100000 in
set_option maxHeartbeats 1000000 in
theorem index_any (f : Nat) (p : Int → Bool) (hf : ∀ (x : Int) (w : World), Calls Tryd.prog f #[.int .i64 x] w fun e w' => e = .returned (.bool (p x)) ∧ w = w') (A : Option Addr) (c : Nat) (l : List Int) (w : World) (hl : l.length ≤ maxLen) (hs : SlR w w.heap.size A l)
    (ef : ∀ (x : Int) (W : World), (callFunc f #[.int .i64 x]).run Tryd.prog W = .ok (.enter f #[.int .i64 x]) W) :
    Calls Tryd.prog 80 #[.slice A l.length c, .func (.func f) #[] #[]] w fun e w' => e = .returned (.int .i64 (firstBad p l 0)) ∧ Below w.heap.size w w' := by
  have Hf := hid hf
  clear hf
  unfold maxLen at hl
  go_enter Tryd.func80, Tryd.ntmps80
  go_wp2_with fail
  have R0 : Hid (firstBad p l 0 = firstBad p (l.drop 0) 0) := by simp [Hid]
  go_loop [8] (fun i => ∃ k : Nat, k ≤ l.length ∧ i = .int .i64 k ∧ Hid (firstBad p l 0 = firstBad p (l.drop k) k)) (fun i => l.length - (intOf i).toNat)
  case atStart => exact ⟨0, by omega, rfl, R0⟩
  case round =>
    clear R0
    obtain ⟨k, hk, rfl, hr⟩ := hrel
    by_cases hlt : k < l.length
    · obtain ⟨b, off, rfl, hb, g1, _⟩ := hs.int hlt
      have hst := hid (firstBad_step (p := p) hlt)
      cases hp : p l[k] with
      | true =>
        have he : Hid (firstBad p (l.drop k) k = k) := by rw [Hid, hst.out, if_pos hp]
        have Hp := hid hp
        clear hp
        go_wp2_with fail
        refine (Hf.out _ _).mono ?_
        rintro e w' ⟨rfl, rfl⟩
        rw [Hp.out]
        go_wp2
        go_ret
        exact ⟨ret_int (by rw [hr.out, he.out]), Below.refl _ _⟩
      | false =>
        have he : Hid (firstBad p (l.drop k) k = firstBad p (l.drop (k+1)) (k+1)) := by rw [Hid, hst.out, if_neg (by simp [hp])]
        have Hp := hid hp
        clear hp
        go_wp2_with fail
        refine (Hf.out _ _).mono ?_
        rintro e w' ⟨rfl, rfl⟩
        rw [Hp.out]
        go_wp2
        go_round
        case rel => exact ⟨k+1, by omega, by go_num, hr.out.trans he.out⟩
        case measure => simp [intOf]; omega
    · have he := hid (show firstBad p (l.drop k) k = -1 by rw [List.drop_eq_nil_of_le (by omega)]; rfl)
      go_wp2
      go_ret
      exact ⟨ret_int (by rw [hr.out, he.out]), Below.refl _ _⟩

set_option maxRecDepth 100000 in
set_option maxHeartbeats 1000000 in
theorem contains_any (f : Nat) (p : Int → Bool) (hf : ∀ (x : Int) (w : World), Calls Tryd.prog f #[.int .i64 x] w fun e w' => e = .returned (.bool (p x)) ∧ w = w') (A : Option Addr) (c : Nat) (l : List Int) (w : World) (hl : l.length ≤ maxLen) (hs : SlR w w.heap.size A l)
    (ef : ∀ (x : Int) (W : World), (callFunc f #[.int .i64 x]).run Tryd.prog W = .ok (.enter f #[.int .i64 x]) W) :
    Calls Tryd.prog 55 #[.slice A l.length c, .func (.func f) #[] #[]] w fun e w' => e = .returned (.bool (l.any p)) ∧ Below w.heap.size w w' := by
  have hr := hid (firstBad_nonneg p l 0)
  have Hf := hid hf
  have Ef := hid ef
  clear hf ef
  go_enter Tryd.func55, Tryd.ntmps55
  go_wp2_with fail
  refine (index_any f p Hf.out A c l _ hl hs Ef.out).mono ?_
  rintro e w' ⟨rfl, hB⟩
  go_wp2
  go_ret
  exact ⟨ret_bool hr.out, hB⟩
end Go.Proofs.YtappgjdnfllblaaDoor
