
/- Words for memory (what a value reads as), how an argument's reading gives them, and the frame of a law's proof. No program is looked into here. -/
import Derived.Test.YtbefmjodpndndaaDoorRows
import Derived.WalkKit
import Derived.WalkSpells
import Derived.WalkLawsBesides
import Derived.ProofKit
import Derived.Deep.Slices
import Derived.BigQuiet
import Derived.StillTailTactics
import Derived.Deep.DeepCutAuto
import Derived.Deep.LoopGhost
import Derived.Handy
import Derived.Deep.RegionHeld3
import Derived.Deep.RegionWith
import Derived.BigRegion
import Derived.Deep.AppendLies
set_option linter.unusedSimpArgs false
set_option linter.unusedVariables false
namespace Go.Proofs.YtbefmjodpndndaaDoor
open Go.RowKit Go.ChangeShapes Go.WideShapes Go.Deep

theorem hid {p : Prop} (h : p) : Hid p := h

theorem ret_int {k : IntKind} {a b : Int} (h : a = b) : Ending.returned (.int k a) = .returned (.int k b) := by rw [h]
theorem ret_bool {a b : Bool} (h : a = b) : Ending.returned (.bool a) = .returned (.bool b) := by rw [h]

theorem ofInt_i64 (a : Nat) (ha : a < 9223372036854775808) : (BitVec.ofInt 64 (a : Int)).toNat = a := by
  rw [BitVec.ofInt_natCast, BitVec.toNat_ofNat]; exact Nat.mod_eq_of_lt (by omega)
theorem i64_and_nat (a b : Nat) (ha : a < 9223372036854775808) (hb : b < 9223372036854775808) : bits .and .i64 (a : Int) (b : Int) = ((a &&& b : Nat) : Int) := by
  have hx : a &&& b < 2 ^ 63 := Nat.and_lt_two_pow _ (by omega)
  show IntKind.i64.wrap ((BitVec.ofInt 64 (a : Int) &&& BitVec.ofInt 64 (b : Int)).toNat : Int) = _
  rw [BitVec.toNat_and, ofInt_i64 a ha, ofInt_i64 b hb, IntKind.wrap_i64]
  omega

/-! ### Words -/
def I64 (n : Int) : Prop := -9223372036854775808 ≤ n ∧ n ≤ 9223372036854775807
theorem I64.bd {n : Int} (h : I64 n) : -9223372036854775808 ≤ n ∧ n ≤ 9223372036854775807 := h
theorem I64.nat {n : Nat} (h : n ≤ 9223372036854775807) : I64 n := ⟨by omega, by omega⟩

/-- What a run of cells reads as: T's values take 'size' cells; blocks below B alone are looked at. -/
class Rep (T : Type) where
  size : Nat
  rep : World → Nat → List Value → T → Prop
  mono : ∀ {w w' : World} {B B' : Nat} {cs : List Value} {x : T}, B ≤ B' → (∀ k, k < B → w'.heap[k]? = w.heap[k]?) → rep w B cs x → rep w' B' cs x

instance : Rep Int := ⟨1, fun _ _ cs n => cs = [.int .i64 n] ∧ I64 n, fun _ _ h => h⟩
instance : Rep Bool := ⟨1, fun _ _ cs b => cs = [.bool b], fun _ _ h => h⟩

/-- The slice at A holds the list. -/
def SlR {T : Type} [Rep T] (w : World) (B : Nat) (A : Option Addr) (l : List T) : Prop :=
  ∀ (k : Nat) (x : T), l[k]? = some x → ∃ (b off : Nat) (es : List Value), A = some ⟨b, off, none⟩ ∧ b < B ∧ es.length = Rep.size T ∧
    (∀ (j : Nat) (u : Value), es[j]? = some u → w.cell? ⟨b, off + k * Rep.size T + j, none⟩ = some u) ∧ Rep.rep w B es x

section
variable {T : Type} [Rep T] {w w' : World} {B B' : Nat} {A : Option Addr} {l : List T}
theorem cell_kept {p : Addr} (h : w'.heap[p.block]? = w.heap[p.block]?) : w'.cell? p = w.cell? p := World.cell?_of_block (w := w) h
theorem SlR.mono (hB : B ≤ B') (hk : ∀ k, k < B → w'.heap[k]? = w.heap[k]?) (h : SlR w B A l) : SlR w' B' A l := by
  intro k x hx
  obtain ⟨b, off, es, hA, hb, hs, hc, hr⟩ := h k x hx
  exact ⟨b, off, es, hA, by omega, hs, fun j u hu => by rw [cell_kept (hk b hb)]; exact hc j u hu, Rep.mono hB hk hr⟩
theorem SlR.below (h : SlR w B A l) (hb : Below B w w') : SlR w' B A l := h.mono (Nat.le_refl _) hb.block
theorem SlR.more (h : SlR w B A l) (hB : B ≤ B') : SlR w B' A l := h.mono hB (fun _ _ => rfl)
theorem SlR.nil : SlR w B A ([] : List T) := fun k x hx => by simp at hx
theorem SlR.drew (h : SlR w B A l) : SlR w.drew B A l := SlR.mono (w := w) (Nat.le_refl _) (fun _ _ => rfl) h
theorem SlR.alloc (h : SlR w B A l) (hB : B ≤ w.heap.size) (o : Obj) : SlR (w.alloc o) B A l := h.mono (Nat.le_refl _) (fun k hk => Below.heap_alloc w o k (by omega))
theorem SlR.setCell (h : SlR w B A l) {p : Addr} (hB : B ≤ p.block) (u : Value) : SlR (w.setCell p u) B A l := h.mono (Nat.le_refl _) (fun k hk => Below.heap_setCell w p u k (by omega))
end

instance {T : Type} [Rep T] : Rep (List T) :=
  ⟨1, fun w B cs l => ∃ A c, cs = [.slice A l.length c] ∧ l.length ≤ c ∧ c ≤ maxLen ∧ SlR w B A l,
    fun hB hk ⟨A, c, h1, h2, h3, h4⟩ => ⟨A, c, h1, h2, h3, h4.mono hB hk⟩⟩

instance {T S : Type} [Rep T] [Rep S] : Rep (T × S) :=
  ⟨Rep.size T + Rep.size S, fun w B cs x => ∃ c1 c2, cs = c1 ++ c2 ∧ c1.length = Rep.size T ∧ c2.length = Rep.size S ∧ Rep.rep w B c1 x.1 ∧ Rep.rep w B c2 x.2,
    fun hB hk ⟨c1, c2, h1, h2, h3, h4, h5⟩ => ⟨c1, c2, h1, h2, h3, Rep.mono hB hk h4, Rep.mono hB hk h5⟩⟩

section
variable {w w' : World} {B B' : Nat} {A : Option Addr}
theorem SlR.int {l : List Int} (h : SlR w B A l) {k : Nat} (hk : k < l.length) : ∃ b off, A = some ⟨b, off, none⟩ ∧ b < B ∧ w.cell? ⟨b, off + k, none⟩ = some (.int .i64 l[k]) ∧ I64 l[k] := by
  obtain ⟨b, off, es, hA, hb, _, hc, rfl, hi⟩ := h k _ (List.getElem?_eq_getElem hk)
  exact ⟨b, off, hA, hb, by have := hc 0 _ rfl; simpa [Rep.size] using this, hi⟩
theorem SlR.int_at {b off : Nat} {l : List Int} (h : SlR w B (some ⟨b, off, none⟩) l) {k : Nat} (hk : k < l.length) : w.cell? ⟨b, off + k, none⟩ = some (.int .i64 l[k]) := by
  obtain ⟨b', off', hA, hb, hc, hi⟩ := h.int hk
  simp only [Option.some.injEq, Addr.mk.injEq] at hA
  obtain ⟨rfl, rfl, _⟩ := hA
  exact hc
theorem SlR.ints {l : List Int} (h : SlR w B A l) : ∀ x ∈ l, I64 x := by
  intro x hx
  obtain ⟨k, hk, rfl⟩ := List.getElem_of_mem hx
  exact (h.int hk).choose_spec.choose_spec.2.2.2
theorem SlR.bool {l : List Bool} (h : SlR w B A l) {k : Nat} (hk : k < l.length) : ∃ b off, A = some ⟨b, off, none⟩ ∧ b < B ∧ w.cell? ⟨b, off + k, none⟩ = some (.bool l[k]) := by
  obtain ⟨b, off, es, hA, hb, _, hc, rfl⟩ := h k _ (List.getElem?_eq_getElem hk)
  exact ⟨b, off, hA, hb, by have := hc 0 _ rfl; simpa [Rep.size] using this⟩
theorem SlR.bool_at {b off : Nat} {l : List Bool} (h : SlR w B (some ⟨b, off, none⟩) l) {k : Nat} (hk : k < l.length) : w.cell? ⟨b, off + k, none⟩ = some (.bool l[k]) := by
  obtain ⟨b', off', hA, hb, hc⟩ := h.bool hk
  simp only [Option.some.injEq, Addr.mk.injEq] at hA
  obtain ⟨rfl, rfl, _⟩ := hA
  exact hc
theorem SlR.list {T : Type} [Rep T] {l : List (List T)} (h : SlR w B A l) {k : Nat} (hk : k < l.length) :
    ∃ b off A' c', A = some ⟨b, off, none⟩ ∧ b < B ∧ w.cell? ⟨b, off + k, none⟩ = some (.slice A' l[k].length c') ∧ l[k].length ≤ c' ∧ c' ≤ maxLen ∧ SlR w B A' l[k] := by
  obtain ⟨b, off, es, hA, hb, _, hc, A', c', rfl, h1, h2, h3⟩ := h k _ (List.getElem?_eq_getElem hk)
  exact ⟨b, off, A', c', hA, hb, by have := hc 0 _ rfl; simpa [Rep.size] using this, h1, h2, h3⟩
theorem SlR.list_at {T : Type} [Rep T] {b off : Nat} {l : List (List T)} (h : SlR w B (some ⟨b, off, none⟩) l) {k : Nat} (hk : k < l.length) :
    ∃ A' c', w.cell? ⟨b, off + k, none⟩ = some (.slice A' l[k].length c') ∧ l[k].length ≤ c' ∧ c' ≤ maxLen ∧ SlR w B A' l[k] := by
  obtain ⟨b', off', A', c', hA, hb, hc⟩ := h.list hk
  simp only [Option.some.injEq, Addr.mk.injEq] at hA
  obtain ⟨rfl, rfl, _⟩ := hA
  exact ⟨A', c', hc⟩
end

theorem bcell {W w1 : World} {B : Nat} (hb : Below B W w1) : (∀ b o, b < B → w1.cell? ⟨b, o, none⟩ = W.cell? ⟨b, o, none⟩) :=
  fun b o h => hb.cell (p := ⟨b, o, none⟩) h

theorem bfrozen {W w1 : World} {B : Nat} (hb : Below B W w1) : (∀ b o, b < B → w1.frozen? ⟨b, o, none⟩ = W.frozen? ⟨b, o, none⟩) :=
  fun b o h => hb.frozen (p := ⟨b, o, none⟩) h
/-- A struct's result that lies in a cell block. -/
theorem run_make_rowN {P : Program} (t e : TypeId) (i : TypeInfo) (z : Value) (ht : P.underlying t = some (.slice e)) (hi : P.info? e = some i) (hz : i.zero = some z)
    (kl kc : IntKind) (n c : Nat) (hnc : n ≤ c) (hbytes : i.bytes * c ≤ 281474976710656) (h63 : c ≤ 9223372036854775807) (w : World) :
    (Instr.makeSlice t (.int kl (n : Int)) (.int kc (c : Int))).run P w = .ok (.slice (some ⟨w.heap.size, 0, none⟩) n c) (w.alloc (.cells (madeCells z.cells (c * i.size)) e)) := by
  have hb : (i.bytes : Int) * (c : Int) ≤ 281474976710656 := by
    have h : ((i.bytes * c : Nat) : Int) ≤ 281474976710656 := by omega
    rwa [Int.natCast_mul] at h
  have hr := run_make (P := P) w t e i z ht hi hz kl kc n c (by omega) (by omega) hb (by omega)
  simp only [Int.toNat_natCast] at hr
  exact hr

/-! ### A region that draws its order, whose operations read, or call what leaves all that was there alone -/
structure Ext (G : World → Prop) where
  w : World
  h : G w
/-- Nothing that was in w1 has changed. -/
def GB (w1 : World) : World → Prop := fun w' => Below w1.heap.size w1 w'
theorem wp_region_ext {P : Program} (G : World → Prop) {id : Nat} {Q : Exit → Act → World → Prop} {a : Act} {w : World} {l : List Oper} (hm : P.follows .mixedOrders = true) (hB : Region.lexB .any l.toArray = true) (hG : G w.drew)
    (h : wpQuiet P l.toArray (fun w' => ∃ x : Ext G, w' = x.w) (fun a' => ∀ w', G w' → Q .normal a' w') l a) : (Code.region id l.toArray true).wp P Q a w := by
  refine wp_region_quiet (C := fun w' => ∃ x : Ext G, w' = x.w) hm hB ⟨⟨_, hG⟩, rfl⟩ ?_
  have e : (fun a' => ∀ w', G w' → Q .normal a' w') = (fun a' => ∀ w', (∃ x : Ext G, w' = x.w) → Q .normal a' w') := by
    funext a'
    apply propext
    exact ⟨fun h w' ⟨x, hx⟩ => hx ▸ h x.w x.h, fun h w' hw' => h w' ⟨⟨w', hw'⟩, rfl⟩⟩
  rw [← e]
  simpa using h
theorem GB.out {w1 w' : World} (h : GB w1 w') : Below w1.heap.size w1 w' := h
instance (w1 : World) : Nonempty (Ext (GB w1)) := ⟨⟨w1, Below.refl _ _⟩⟩
theorem GB.refl (w : World) : GB w w.drew := (Below.refl _ _).drew
theorem GB.cell {w1 : World} (x : Ext (GB w1)) (b o : Nat) (h : b < w1.heap.size) : x.w.cell? ⟨b, o, none⟩ = w1.cell? ⟨b, o, none⟩ := x.h.out.cell (p := ⟨b, o, none⟩) h
theorem GB.size {w1 : World} (x : Ext (GB w1)) : w1.heap.size ≤ x.w.heap.size := x.h.out.size
/-- A callee that leaves all that was there alone. -/
theorem GB.call {P : Program} {f : FuncId} {args : Array Value} {w1 : World} {x : Ext (GB w1)} {v : Value} (h : Calls P f args x.w fun e w' => e = .returned v ∧ Below x.w.heap.size x.w w') :
    Calls P f args x.w fun e w'' => e = .returned v ∧ ∃ y : Ext (GB w1), w'' = y.w :=
  h.mono fun _ w' ⟨he, hb⟩ => ⟨he, ⟨⟨w', x.h.out.trans (hb.mono x.h.out.size)⟩, rfl⟩⟩

/-! ### A block that is known whole -/
def Blk (w : World) (g : Nat) (t : TypeId) (cs : Array Value) : Prop := w.heap[g]? = some (.cells cs t (0, 0))
section
variable {w w' : World} {g : Nat} {t : TypeId} {cs : Array Value}
theorem Blk.lt (h : Blk w g t cs) : g < w.heap.size := by
  rcases Nat.lt_or_ge g w.heap.size with hlt | hge
  · exact hlt
  · unfold Blk at h; rw [Array.getElem?_eq_none hge] at h; cases h
theorem Blk.cell (h : Blk w g t cs) (i : Nat) : w.cell? ⟨g, i, none⟩ = cs[i]? := cell_of_row w g i cs t (0, 0) h
theorem Blk.frozen (h : Blk w g t cs) (i : Nat) : w.frozen? ⟨g, i, none⟩ = false := by
  unfold Blk at h
  simp [World.frozen?, h]
theorem Blk.new (w : World) (t : TypeId) (cs : Array Value) : Blk (w.alloc (.cells cs t)) w.heap.size t cs := heap_alloc_new w _
theorem Blk.new_at {w : World} {t : TypeId} {cs : Array Value} {g : Nat} (h : g = w.heap.size) : Blk (w.alloc (.cells cs t)) g t cs := by subst h; exact Blk.new w t cs
theorem Blk.drew (h : Blk w g t cs) : Blk w.drew g t cs := h
theorem Blk.drewN (h : Blk w g t cs) (n : Nat) : Blk (w.drewN n) g t cs := h
theorem Blk.alloc (h : Blk w g t cs) (o : Obj) : Blk (w.alloc o) g t cs := (Below.heap_alloc w o g h.lt).trans h
theorem Blk.set_ (h : Blk w g t cs) (i : Nat) (u : Value) : Blk (w.setCell ⟨g, i, none⟩ u) g t (cs.setIfInBounds i u) := by
  unfold Blk at h ⊢
  simp [World.setCell, Array.getElem?_modify, h]
theorem Blk.far (h : Blk w g t cs) {p : Addr} (hp : g ≠ p.block) (u : Value) : Blk (w.setCell p u) g t cs := (Below.heap_setCell w p u g hp).trans h
theorem Blk.below {B : Nat} (h : Blk w g t cs) (hb : Below B w w') (hg : g < B) : Blk w' g t cs := (hb.block g hg).trans h
theorem Blk.grown {row : Option Nat} (h : Blk w g t cs) (hb : w.grownBy w' row) (hg : some g ≠ row) : Blk w' g t cs := (hb.block g h.lt hg).trans h
theorem Blk.ne_ {g' : Nat} {t' : TypeId} {cs' : Array Value} (h : Blk w g t cs) (h' : Blk w g' t' cs') (hne : t ≠ t') : g ≠ g' := by
  rintro rfl
  unfold Blk at h h'
  rw [h] at h'
  injection h' with h'
  injection h' with _ ht
  exact hne ht
theorem own_blk_ne {base : Nat} {e : TypeId} {size n : Nat} {v : Value} {xs : List Value} (h : w.ownsRow base e size v n xs) (hg : Blk w g t cs) (hne : e ≠ t) : v.ownBlock ≠ some g := by
  rcases h.2 with ⟨rfl, _⟩ | ⟨g', cap, cur, rfl, _, hh, _⟩
  · simp [Value.ownBlock]
  · intro he
    have : g' = g := by simpa [Value.ownBlock] using he
    subst this
    exact Blk.ne_ (t := e) hh hg hne rfl
/-- A block of bools, of ints: the slice over it. -/
theorem Blk.bools {l : List Bool} {B : Nat} (h : Blk w g t (l.map Value.bool).toArray) (hg : g < B) : SlR w B (some ⟨g, 0, none⟩) l := by
  intro k x hx
  refine ⟨g, 0, [.bool x], rfl, hg, rfl, fun j u hu => ?_, rfl⟩
  match j, hu with
  | 0, hu =>
    simp only [List.getElem?_cons_zero, Option.some.injEq] at hu
    subst hu
    rw [h.cell]; simp [Rep.size, hx]
  | j+1, hu => simp at hu
theorem Blk.ints {l : List Int} {B : Nat} (h : Blk w g t (l.map (Value.int .i64)).toArray) (hg : g < B) (hi : ∀ x ∈ l, I64 x) : SlR w B (some ⟨g, 0, none⟩) l := by
  intro k x hx
  refine ⟨g, 0, [.int .i64 x], rfl, hg, rfl, fun j u hu => ?_, rfl, hi x (List.mem_of_getElem? hx)⟩
  match j, hu with
  | 0, hu =>
    simp only [List.getElem?_cons_zero, Option.some.injEq] at hu
    subst hu
    rw [h.cell]; simp [Rep.size, hx]
  | j+1, hu => simp at hu
end

/-! ### From a reading to the words -/
/-- Whatever reads as data at type t reads as a T. -/
def Opens (P : Program) (t : TypeId) (T : Type) [Rep T] : Prop :=
  P.cellsOf t = Rep.size T ∧ ∀ {H : Type} {enc : TypeId × Value → H} {w : World} {base : Nat} {spare : Nat → Bool} {held : Bool} {fuel : Nat} {cs : List Value} {x : DataW H × List MemPlace},
    DataW.trod enc P w base spare held fuel t cs = some x → ∃ d : T, Rep.rep w w.heap.size cs d

theorem wf_I64 {n : Int} (h : (Lit.int .i64 n).wf = true) : I64 n := by
  simp [Lit.wf, IntKind.min, IntKind.max, IntKind.bits, IntKind.signed] at h
  exact ⟨by omega, by omega⟩
theorem opens_int {P : Program} {t : TypeId} (ht : P.underlying t = some (.int .i64)) (hc : P.cellsOf t = 1) : Opens P t Int := by
  refine ⟨hc, fun h => ?_⟩
  obtain ⟨n, rfl, _, hw⟩ := DataW.trod_int ht h
  exact ⟨n, rfl, wf_I64 hw⟩
theorem opens_bool {P : Program} {t : TypeId} (ht : P.underlying t = some .bool) (hc : P.cellsOf t = 1) : Opens P t Bool := by
  refine ⟨hc, fun h => ?_⟩
  obtain ⟨n, rfl, _⟩ := DataW.trod_bool ht h
  exact ⟨n, rfl⟩
theorem cell_lt {w : World} {p : Addr} {v : Value} (h : w.cell? p = some v) : p.block < w.heap.size ∧ p.spot = none := by
  unfold World.cell? at h
  split at h
  · rename_i hb
    refine ⟨(Array.getElem?_eq_some_iff.1 hb).1, ?_⟩
    split at h
    · cases h
    · rename_i hs
      simpa using hs
  · cases h
theorem opens_list {P : Program} {t e : TypeId} {T : Type} [Rep T] (ht : P.underlying t = some (.slice e)) (hc : P.cellsOf t = 1) (hpos : 0 < Rep.size T) (he : Opens P e T) : Opens P t (List T) := by
  classical
  refine ⟨hc, fun {H enc w base spare held fuel cs x} h => ?_⟩
  rcases open_slice ht h with ⟨rfl, _⟩ | ⟨a, len, cap, m, n, D, Pl, rfl, hb, hl, hm, hmm, rfl, hi⟩
  · exact ⟨[], none, 0, rfl, by simp, by simp [maxLen], SlR.nil⟩
  · have hlm : len ≤ m := by rw [hmm]; split <;> omega
    have hall : ∀ i, i < len → ∃ (d : T), ∃ es, w.cells? base (a.add (i * P.cellsOf e)) (P.cellsOf e) = some es ∧ Rep.rep w w.heap.size es d := fun i hil => by
      obtain ⟨cs', h1, h2⟩ := hi i (by omega)
      obtain ⟨d, hd⟩ := he.2 h2
      exact ⟨d, cs', h1, hd⟩
    rcases Nat.eq_zero_or_pos len with h0 | h0
    · subst h0
      exact ⟨[], some a, cap, rfl, by simp, hm, SlR.nil⟩
    obtain ⟨d0, _⟩ := hall 0 h0
    have : Inhabited T := ⟨d0⟩
    obtain ⟨f, hf⟩ := choose_lt (α := T) hall
    refine ⟨(List.range len).map f, some a, cap, by simp, by simpa using hl, hm, ?_⟩
    intro k x hx
    have hk : k < len := by
      rcases Nat.lt_or_ge k len with h | h
      · exact h
      · rw [List.getElem?_eq_none (by simpa using h)] at hx; cases hx
    rw [List.getElem?_map, List.getElem?_range hk] at hx
    simp only [Option.map_some, Option.some.injEq] at hx
    subst hx
    obtain ⟨es, h1, h2⟩ := hf k hk
    obtain ⟨_, hlen, hat⟩ := World.cells?_some h1
    rw [he.1] at hlen hat
    have hspot : ∀ (i : Nat), i < len → a.spot = none ∧ a.block < w.heap.size := by
      intro i hil
      obtain ⟨es0, h10, _⟩ := hf 0 h0
      obtain ⟨_, hlen0, hat0⟩ := World.cells?_some h10
      rw [he.1] at hlen0 hat0
      have h00 := hat0 0 hpos
      rw [List.getElem?_eq_getElem (by omega)] at h00
      have := cell_lt h00
      simp only [Nat.zero_mul, Addr.add, if_true] at this
      exact ⟨this.2, this.1⟩
    obtain ⟨hs1, hs2⟩ := hspot 0 h0
    obtain ⟨b, off, spot⟩ := a
    simp only at hs1 hs2
    subst hs1
    refine ⟨b, off, es, rfl, hs2, hlen, fun j u hu => ?_, h2⟩
    have hj : j < es.length := by
      rcases Nat.lt_or_ge j es.length with h | h
      · exact h
      · rw [List.getElem?_eq_none h] at hu; cases hu
    have := hat j (by omega)
    rw [hu] at this
    have hadd : ((⟨b, off, none⟩ : Addr).add (k * Rep.size T)).add j = ⟨b, off + k * Rep.size T + j, none⟩ := by
      unfold Addr.add
      by_cases h1 : k * Rep.size T = 0 <;> by_cases h2 : j = 0 <;> simp [h1, h2]
    rw [← hadd]
    exact this

theorem opens_pair {P : Program} {t : TypeId} {f0 f1 : Field} {T S : Type} [Rep T] [Rep S] (ht : P.underlying t = some (.struct #[f0, f1])) (hc : P.cellsOf t = Rep.size T + Rep.size S)
    (h0 : Opens P f0.type T) (h1 : Opens P f1.type S) (o0 : f0.offset = 0) (o1 : f1.offset = Rep.size T) : Opens P t (T × S) := by
  refine ⟨hc, fun {H enc w base spare held fuel cs x} h => ?_⟩
  obtain ⟨xs, n, _, _, hl, hlen, hf⟩ := DataW.trod_struct ht h
  have e0 := hf 0 f0 rfl
  have e1 := hf 1 f1 rfl
  match xs, hlen with
  | [y0, y1], _ =>
    rw [o0, h0.1] at e0
    rw [o1, h1.1] at e1
    obtain ⟨d0, r0⟩ := h0.2 e0
    obtain ⟨d1, r1⟩ := h1.2 e1
    refine ⟨(d0, d1), (cs.drop 0).take (Rep.size T), (cs.drop (Rep.size T)).take (Rep.size S), ?_, ?_, ?_, r0, r1⟩
    · have e : (cs.drop (Rep.size T)).take (Rep.size S) = cs.drop (Rep.size T) := List.take_of_length_le (by simp; omega)
      rw [List.drop_zero, e, List.take_append_drop]
    · simp; omega
    · simp; omega
theorem opens_triple {P : Program} {t : TypeId} {f0 f1 f2 : Field} {T S R : Type} [Rep T] [Rep S] [Rep R] (ht : P.underlying t = some (.struct #[f0, f1, f2])) (hc : P.cellsOf t = Rep.size T + (Rep.size S + Rep.size R))
    (h0 : Opens P f0.type T) (h1 : Opens P f1.type S) (h2 : Opens P f2.type R) (o0 : f0.offset = 0) (o1 : f1.offset = Rep.size T) (o2 : f2.offset = Rep.size T + Rep.size S) : Opens P t (T × S × R) := by
  refine ⟨hc, fun {H enc w base spare held fuel cs x} h => ?_⟩
  obtain ⟨xs, n, _, _, hl, hlen, hf⟩ := DataW.trod_struct ht h
  have e0 := hf 0 f0 rfl
  have e1 := hf 1 f1 rfl
  have e2 := hf 2 f2 rfl
  match xs, hlen with
  | [y0, y1, y2], _ =>
    rw [o0, h0.1] at e0
    rw [o1, h1.1] at e1
    rw [o2, h2.1] at e2
    obtain ⟨d0, r0⟩ := h0.2 e0
    obtain ⟨d1, r1⟩ := h1.2 e1
    obtain ⟨d2, r2⟩ := h2.2 e2
    refine ⟨(d0, d1, d2), (cs.drop 0).take (Rep.size T), (cs.drop (Rep.size T)).take (Rep.size S) ++ (cs.drop (Rep.size T + Rep.size S)).take (Rep.size R), ?_, ?_, ?_, r0, _, _, rfl, ?_, ?_, r1, r2⟩
    · have e : (cs.drop (Rep.size T + Rep.size S)).take (Rep.size R) = (cs.drop (Rep.size T)).drop (Rep.size S) := by rw [List.drop_drop]; exact List.take_of_length_le (by simp; omega)
      rw [List.drop_zero, e, List.take_append_drop, List.take_append_drop]
    · simp; omega
    · simp only [Rep.size, List.length_append, List.length_take, List.length_drop]; omega
    · simp; omega
    · simp; omega
/-- An argument of a struct's type; of another. -/
theorem arg_struct {P : Program} {t : TypeId} {fs : Array Field} {T : Type} [Rep T] {H : Type} {enc : TypeId × Value → H} {W : World} {base b0 : Nat} {sp : Nat → Bool} {hd : Bool} {v : Value} {d : DataW H} {p : List MemPlace} (ht : P.underlying t = some (.struct fs)) (ho : Opens P t T)
    (hv : Value.okWide P W .any b0 t v) (h : DataW.Trod enc P W base sp hd t v d p) : ∃ (cs : List Value) (x : T), v = .agg cs.toArray ∧ Rep.rep W W.heap.size cs x := by
  obtain ⟨cs, rfl, _⟩ := okWide_struct ht hv
  obtain ⟨fuel, hf⟩ := h
  obtain ⟨x, hx⟩ := ho.2 hf
  exact ⟨cs.toList, x, by simp, hx⟩
theorem arg_slice {P : Program} {t e : TypeId} {T : Type} [Rep T] {H : Type} {enc : TypeId × Value → H} {W : World} {base b0 : Nat} {sp : Nat → Bool} {hd : Bool} {v : Value} {d : DataW H} {p : List MemPlace} (ht : P.underlying t = some (.slice e)) (ho : Opens P t (List T))
    (hv : Value.okWide P W .any b0 t v) (h : DataW.Trod enc P W base sp hd t v d p) : ∃ (A : Option Addr) (c : Nat) (l : List T), v = .slice A l.length c ∧ l.length ≤ c ∧ c ≤ maxLen ∧ SlR W W.heap.size A l := by
  obtain ⟨a, len, cap, rfl⟩ := okWide_slice ht hv
  obtain ⟨fuel, hf⟩ := h
  obtain ⟨x, A, c, hx, h1, h2, h3⟩ := ho.2 hf
  simp only [Value.cells, List.cons.injEq, and_true] at hx
  exact ⟨A, c, x, hx, h1, h2, h3⟩
theorem arg_int {P : Program} {t : TypeId} {H : Type} {enc : TypeId × Value → H} {W : World} {base b0 : Nat} {sp : Nat → Bool} {hd : Bool} {v : Value} {d : DataW H} {p : List MemPlace} (ht : P.underlying t = some (.int .i64))
    (hv : Value.okWide P W .any b0 t v) (h : DataW.Trod enc P W base sp hd t v d p) : ∃ n, v = .int .i64 n ∧ I64 n := by
  obtain ⟨n, rfl⟩ := okWide_int ht hv
  obtain ⟨fuel, hf⟩ := h
  obtain ⟨m, hm, _, hw⟩ := DataW.trod_int ht hf
  simp only [Value.cells, List.cons.injEq, and_true, Value.int.injEq, true_and] at hm
  exact ⟨n, rfl, by rw [hm]; exact wf_I64 hw⟩
theorem arg_bool {P : Program} {t : TypeId} {W : World} {b0 : Nat} {v : Value} (ht : P.underlying t = some .bool) (hv : Value.okWide P W .any b0 t v) : ∃ b, v = .bool b := okWide_bool ht hv

/-! ### The frame of a law's proof -/
theorem trodAll_stays {H : Type} {enc : TypeId × Value → H} {P : Program} {W W' : World} {sp : Nat → Bool} (hl : laidOutB P = true) :
    ∀ (ts : List TypeId) (vs : List Value) (ds : List (DataW H)) (ps : List MemPlace), (∀ t ∈ ts, P.readableRec t = true ∧ t < P.types.size) →
      DataW.TrodAll enc P W 0 (fun _ => true) true ts vs ds ps → (∀ p ∈ ps, W.sameAt W' p) → (∀ p ∈ ps, sp p.block = true) → DataW.TrodAll enc P W' 0 sp true ts vs ds ps
  | [], [], [], _, _, h, _, _ => h
  | t :: ts, v :: vs, d :: ds, _, hr, ⟨p, q, h1, h2, e⟩, hs, hsp =>
    ⟨p, q, WideElems.Trod_stays hl (hr t (by simp)).1 (hr t (by simp)).2 h1 (fun x hx => hs x (by rw [e]; simp [hx])) (fun x hx => hsp x (by rw [e]; simp [hx])),
      trodAll_stays hl ts vs ds q (fun t' ht' => hr t' (by simp [ht'])) h2 (fun x hx => hs x (by rw [e]; simp [hx])) (fun x hx => hsp x (by rw [e]; simp [hx])), e⟩
  | [], [], _ :: _, _, _, h, _, _ => h.elim
  | [], _ :: _, _, _, _, h, _, _ => by cases h
  | _ :: _, [], _, _, _, h, _, _ => by cases h
  | _ :: _, _ :: _, [], _, _, h, _, _ => by cases h

theorem trodAll_length {H : Type} {enc : TypeId × Value → H} {P : Program} {W : World} {b : Nat} {sp : Nat → Bool} {hd : Bool} :
    ∀ (ts : List TypeId) (vs : List Value) (ds : List (DataW H)) (ps : List MemPlace), DataW.TrodAll enc P W b sp hd ts vs ds ps → ds.length = ts.length
  | [], [], [], _, _ => rfl
  | _ :: ts, _ :: vs, _ :: ds, _, ⟨_, q, _, h2, _⟩ => by simp [trodAll_length ts vs ds q h2]
  | [], [], _ :: _, _, h => h.elim
  | [], _ :: _, _, _, h => by cases h
  | _ :: _, [], _, _, h => by cases h
  | _ :: _, _ :: _, [], _, h => by cases h

/-- A LAW: whatever the arguments read as, the call returns true, and nothing that was there has changed: then the row's step holds. -/
theorem law_lifted {C : Checked} {os : Os} {f : FuncId} {fn : Func} {s : ChangeSpec} {tb : TypeId} (H : Type) (enc : TypeId × Value → H)
    (own : ownKnob C.prog.godebug = none) (started : os.Started) (noInit : C.prog.inits.idxOf? f = none) (hfn : C.prog.funcs[f]? = some fn) (hlaid : laidOutB C.prog = true)
    (hres : fn.resultTypes = #[tb]) (hub : C.prog.underlying tb = some .bool) (hvars : s.vars = []) (hread : ∀ t ∈ fn.params.toList, C.prog.readableRec t = true ∧ t < C.prog.types.size)
    (hs : ∀ ds : List (DataW H), ds.length = fn.params.toList.length → s.fn H ds = { results := [.lit (.bool true)], args := ds })
    (witness : ∃ (w : World) (tape : Tape) (i : Input), w.os = os ∧ (w.forCall tape i).Shaped C.prog ∧ i.vars = [] ∧ Input.okWide C.prog (w.forCall tape i) .any w.heap.size f i ∧
      s.pre6 enc C.prog fn [] false (w.forCall tape i).memory i.args ∧ Assume.holds {} C.prog (lone (Frame.enter C.prog f i.args .normal) [] (w.forCall tape i)))
    (contract : ∀ (W : World) (base : Nat) (args : Array Value) (ds : List (DataW H)) (p : List MemPlace),
      (∀ (j : Nat) t v, fn.params[j]? = some t → args[j]? = some v → Value.okWide C.prog W .any base t v) →
      DataW.TrodAll enc C.prog W 0 (fun _ => true) true fn.params.toList args.toList ds p →
      Calls C.prog f args W fun e W' => e = .returned (.bool true) ∧ Below W.heap.size W W') :
    ReturnsInHanded {} C os f .any (s.pre6 enc C.prog fn [] false) (s.post enc C.prog fn false true false false) := by
  refine returnsInHanded_of_change own started noInit hfn witness ?_
  intro W base args ds gs before hval hW _ _
  have hW' := hW
  obtain ⟨p, q, hA, hV, rfl, hfz, hnd⟩ := hW
  rw [hvars] at hV
  obtain ⟨rfl, rfl⟩ := trodVars_none hV
  have hlen := trodAll_length _ _ _ _ hA
  refine (contract W base args ds p hval hA).mono fun e W' ⟨he, hb⟩ => ⟨_, he, ?_⟩
  have hlt : ∀ x ∈ p ++ [], x.block < W.heap.size := fun x hx => hW'.lt x hx
  rw [List.append_nil] at hlt
  refine ⟨ds, [], p ++ [], [], p, [], hW', ?_, ?_, ?_, ?_, fun h => by cases h⟩
  · rw [List.append_nil, hs ds hlen, hres]
    exact ⟨[], [], ⟨1, by simp [DataW.trod, Value.cells, hub]⟩, rfl, rfl⟩
  · rw [List.append_nil, hs ds hlen]
    exact trodAll_stays hlaid _ _ _ _ hread hA (fun x hx => hb.same (hlt x hx)) (fun x hx => by simpa using hlt x hx)
  · rw [hvars, List.append_nil, hs ds hlen]; rfl
  · exact World.keptBut_mono (fun x hx => ⟨hx, .inr (.inl (by simpa using hx))⟩) (hb.frame (· ∈ p ++ []))

end Go.Proofs.YtbefmjodpndndaaDoor
