
/- Journal: slices.IndexFunc and slices.DeleteFunc over sectors. -/
import Derived.Test.YtbefmjodpndndaaDoorEncA
import Derived.Test.YtbefmjodpndndaaDoorRowG
import Derived.Test.YtbefmjodpndndaaDoorRegS
import Derived.Maps.RangeWalk
import Derived.Maps.Views
import Derived.Maps.OwnSet
import Derived.WideKeyEntry
import Derived.DeepKeys4
import Derived.Shelf.SlMaps.DeleteFunc
import Derived.Lib.BufferWrite
set_option linter.unusedSimpArgs false
set_option linter.unusedVariables false
namespace Go.Proofs.YtbefmjodpndndaaDoor
open Go.RowKit Go.IntWalk

abbrev Bs := List UInt8
theorem gd_app (a b : Bs) (i : Nat) (h : i < a.length) : (a ++ b).getD i 0 = a.getD i 0 := by
  rw [List.getD_eq_getElem?_getD, List.getD_eq_getElem?_getD, List.getElem?_append_left h]
theorem gd_appR (a b : Bs) (i : Nat) (h : a.length ≤ i) : (a ++ b).getD i 0 = b.getD (i - a.length) 0 := by
  rw [List.getD_eq_getElem?_getD, List.getD_eq_getElem?_getD, List.getElem?_append_right h]
theorem gd_lt (a : Bs) (i : Nat) (h : i < a.length) : a.getD i 0 = a[i] := by
  rw [List.getD_eq_getElem?_getD, List.getElem?_eq_getElem h]; rfl
/-- Bytes put into a string at a place. -/
def putL (s : Bs) (p : Nat) (t : Bs) : Bs := if t = [] then s else (s ++ List.replicate (p + t.length - s.length) 0).take p ++ t ++ s.drop (p + t.length)
theorem putL_nil (s : Bs) (p : Nat) : putL s p [] = s := by simp [putL]
theorem putL_len (s : Bs) (p : Nat) (t : Bs) : (putL s p t).length = if t = [] then s.length else max s.length (p + t.length) := by
  unfold putL
  split
  · rfl
  · simp only [List.length_append, List.length_take, List.length_drop, List.length_replicate]
    omega
theorem putL_ge (s : Bs) (p : Nat) (t : Bs) : s.length ≤ (putL s p t).length := by
  rw [putL_len]; split <;> omega
theorem putL_get (s : Bs) (p : Nat) (t : Bs) (i : Nat) : (putL s p t).getD i 0 = if p ≤ i ∧ i < p + t.length then t.getD (i - p) 0 else s.getD i 0 := by
  unfold putL
  split
  · rename_i h
    subst h
    rw [if_neg (by simp only [List.length_nil]; omega)]
  · rename_i h
    have hl : ((s ++ List.replicate (p + t.length - s.length) 0).take p).length = p := by
      simp only [List.length_take, List.length_append, List.length_replicate]; omega
    by_cases h1 : i < p
    · rw [if_neg (by omega), List.append_assoc, gd_app _ _ _ (by rw [hl]; exact h1)]
      rw [List.getD_eq_getElem?_getD, List.getElem?_take_of_lt h1, List.getElem?_append, List.getD_eq_getElem?_getD]
      split
      · rfl
      · rename_i h2
        rw [List.getElem?_replicate]
        have : s[i]? = none := List.getElem?_eq_none_iff.2 (by omega)
        rw [this]
        split <;> rfl
    · by_cases h2 : i < p + t.length
      · rw [if_pos ⟨by omega, h2⟩, List.append_assoc, gd_appR _ _ _ (by rw [hl]; omega), hl, gd_app _ _ _ (by omega)]
      · rw [if_neg (by omega), gd_appR _ _ _ (by rw [List.length_append, hl]; omega), List.length_append, hl]
        rw [List.getD_eq_getElem?_getD, List.getD_eq_getElem?_getD, List.getElem?_drop]
        congr 2
        omega
/-- c has t at the place p. -/
def Has (c : Bs) (p : Nat) (t : Bs) : Prop := p + t.length ≤ c.length ∧ ∀ i < t.length, c.getD (p + i) 0 = t.getD i 0
theorem ext_getD {a b : Bs} (hl : a.length = b.length) (h : ∀ i < a.length, a.getD i 0 = b.getD i 0) : a = b := by
  refine List.ext_getElem hl fun i h1 h2 => ?_
  have := h i h1
  rwa [gd_lt _ _ h1, gd_lt _ _ h2] at this
theorem Has.eq {c t : Bs} {p : Nat} (h : Has c p t) : (c.drop p).take t.length = t := by
  refine ext_getD (by simp only [List.length_take, List.length_drop]; have := h.1; omega) fun i hi => ?_
  simp only [List.length_take, List.length_drop] at hi
  rw [← h.2 i (by omega), List.getD_eq_getElem?_getD, List.getD_eq_getElem?_getD, List.getElem?_take_of_lt (by omega), List.getElem?_drop]
theorem Has.of_eq {c t : Bs} {p : Nat} (h : (c.drop p).take t.length = t) (hp : t = [] → p ≤ c.length) : Has c p t := by
  have hl := congrArg List.length h
  simp only [List.length_take, List.length_drop] at hl
  refine ⟨?_, fun i hi => ?_⟩
  · by_cases h0 : t = []
    · subst h0; have := hp rfl; simpa using this
    · have := List.length_pos_iff.2 h0; omega
  · conv => rhs; rw [← h]
    rw [List.getD_eq_getElem?_getD, List.getD_eq_getElem?_getD, List.getElem?_take_of_lt hi, List.getElem?_drop]
theorem Has.nil (c : Bs) (p : Nat) (h : p ≤ c.length) : Has c p [] := ⟨by simpa using h, by simp⟩
theorem Has.pre {c t r : Bs} {p : Nat} (h : Has c p (t ++ r)) : Has c p t := by
  refine ⟨by have := h.1; rw [List.length_append] at this; omega, fun i hi => ?_⟩
  rw [h.2 i (by rw [List.length_append]; omega), gd_app _ _ _ hi]
theorem Has.app {c t r : Bs} {p : Nat} (h1 : Has c p t) (h2 : Has c (p + t.length) r) : Has c p (t ++ r) := by
  refine ⟨by rw [List.length_append]; have := h2.1; omega, fun i hi => ?_⟩
  by_cases h : i < t.length
  · rw [h1.2 i h, gd_app _ _ _ h]
  · rw [List.length_append] at hi
    rw [gd_appR _ _ _ (by omega), ← h2.2 (i - t.length) (by omega)]
    congr 1
    omega
theorem Has.put (s : Bs) (p : Nat) (t : Bs) (hp : t = [] → p ≤ s.length) : Has (putL s p t) p t := by
  refine ⟨?_, fun i hi => ?_⟩
  · rw [putL_len]
    split
    · rename_i h
      have := hp h
      subst h
      simpa using this
    · omega
  rw [putL_get, if_pos (by omega)]
  congr 1
  omega
theorem Has.put_other {s t u : Bs} {p q : Nat} (h : Has s p t) (ha : q + u.length ≤ p ∨ p + t.length ≤ q) : Has (putL s q u) p t := by
  refine ⟨by have := h.1; have := putL_ge s q u; omega, fun i hi => ?_⟩
  rw [putL_get, if_neg (by omega), h.2 i hi]

/-- What a crash may leave of a file: sectors of what it holds now, over what is durable. -/
def Mix (last now c : Bs) : Prop := ∃ ns : List Nat, c = ns.foldl (fun l n => putL l (n * 64) ((now.drop (n * 64)).take 64)) last
theorem Mix.refl (last now : Bs) : Mix last now last := ⟨[], rfl⟩
theorem Mix.step {last now c : Bs} (h : Mix last now c) (n : Nat) : Mix last now (putL c (n * 64) ((now.drop (n * 64)).take 64)) := by
  obtain ⟨ns, rfl⟩ := h
  exact ⟨ns ++ [n], by rw [List.foldl_append]; rfl⟩
theorem Mix.ind {last now : Bs} {P : Bs → Prop} (h0 : P last) (hs : ∀ c n, P c → P (putL c (n * 64) ((now.drop (n * 64)).take 64))) {c : Bs} (h : Mix last now c) : P c := by
  obtain ⟨ns, rfl⟩ := h
  have : ∀ (ns : List Nat) (c : Bs), P c → P (ns.foldl (fun l n => putL l (n * 64) ((now.drop (n * 64)).take 64)) c) := by
    intro ns
    induction ns with
    | nil => intro c hc; exact hc
    | cons n r ih => intro c hc; exact ih _ (hs c n hc)
  exact this ns last h0
theorem sec_get {now : Bs} {n j : Nat} (h : j < ((now.drop (n * 64)).take 64).length) : ((now.drop (n * 64)).take 64).getD j 0 = now.getD (n * 64 + j) 0 := by
  simp only [List.length_take, List.length_drop] at h
  rw [List.getD_eq_getElem?_getD, List.getD_eq_getElem?_getD, List.getElem?_take_of_lt (by omega), List.getElem?_drop]
theorem Mix.len {last now c : Bs} (hle : last.length ≤ now.length) (h : Mix last now c) : last.length ≤ c.length ∧ c.length ≤ now.length := by
  refine Mix.ind (P := fun c => last.length ≤ c.length ∧ c.length ≤ now.length) ⟨Nat.le_refl _, hle⟩ (fun c n hc => ?_) h
  rw [putL_len]
  split
  · exact hc
  · rename_i hne
    have h0 : ((now.drop (n * 64)).take 64).length ≠ 0 := fun e => hne (List.eq_nil_of_length_eq_zero e)
    simp only [List.length_take, List.length_drop] at h0 ⊢
    omega
theorem Mix.get {last now c : Bs} (h : Mix last now c) (i : Nat) : c.getD i 0 = last.getD i 0 ∨ c.getD i 0 = now.getD i 0 := by
  refine Mix.ind (P := fun c => c.getD i 0 = last.getD i 0 ∨ c.getD i 0 = now.getD i 0) (.inl rfl) (fun c n hc => ?_) h
  rw [putL_get]
  split
  · rename_i hi
    right
    rw [sec_get (by omega)]
    congr 1
    omega
  · exact hc
theorem Mix.head {last now c : Bs} (hle : last.length ≤ now.length) (h : Mix last now c) : (∀ i < 64, c.getD i 0 = last.getD i 0) ∨ (∀ i < 64, c.getD i 0 = now.getD i 0) := by
  refine Mix.ind (P := fun c => (∀ i < 64, c.getD i 0 = last.getD i 0) ∨ (∀ i < 64, c.getD i 0 = now.getD i 0)) (.inl fun _ _ => rfl) (fun c n hc => ?_) h
  by_cases hn : n = 0
  · subst hn
    right
    intro i hi
    rw [putL_get]
    split
    · rename_i h2
      rw [sec_get (by omega)]
      congr 1
      omega
    · rename_i h2
      simp only [List.length_take, List.length_drop] at h2
      have hb : now.length ≤ i := by omega
      have e1 : now.getD i 0 = 0 := by rw [List.getD_eq_getElem?_getD, List.getElem?_eq_none_iff.2 hb]; rfl
      have e2 : last.getD i 0 = 0 := by rw [List.getD_eq_getElem?_getD, List.getElem?_eq_none_iff.2 (by omega)]; rfl
      rcases hc with hc | hc
      · rw [hc i hi, e1, e2]
      · exact hc i hi
  · refine hc.imp (fun hc i hi => ?_) (fun hc i hi => ?_) <;>
    · rw [putL_get, if_neg (by omega)]
      exact hc i hi
theorem Mix.has {last now c t : Bs} {p : Nat} (hle : last.length ≤ now.length) (h : Mix last now c) (h1 : Has last p t) (h2 : Has now p t) : Has c p t := by
  refine ⟨Nat.le_trans h1.1 (h.len hle).1, fun i hi => ?_⟩
  rcases h.get (p + i) with e | e
  · rw [e, h1.2 i hi]
  · rw [e, h2.2 i hi]
theorem Mix.same {now c : Bs} (h : Mix now now c) : c = now := by
  have hl := h.len (Nat.le_refl _)
  refine ext_getD (by omega) fun i _ => ?_
  rcases h.get i with e | e <;> exact e
end Go.Proofs.YtbefmjodpndndaaDoor
namespace Go.Proofs.YtbefmjodpndndaaDoor
open Go.RowKit Go.IntWalk Go.Maps Go.WideMaps Go.ChangeShapes
open Go.ChangeMaps (setBlock heap_setBlock_same)

/-- A file: what it holds now, what is durable. -/
abbrev Fl := Bs × Bs
def csF (x : Fl) : Value := .agg #[.string (bs x.1), .string (bs x.2)]
def datF (x : Fl) : DataW Unit := .agg [.lit (.string x.1), .lit (.string x.2)]
def fileR : Value → Option (DataW Unit × List MemPlace)
  | .agg cs => match cs.toList with
    | [.string a, .string b] => some (.agg [.lit (.string a.data.toList), .lit (.string b.data.toList)], [])
    | _ => none
  | _ => none
theorem bs_toList (l : Bs) : (bs l).data.toList = l := by simp [bs]
theorem fileR_cs (x : Fl) : fileR (csF x) = some (datF x, []) := by
  unfold csF
  simp only [fileR, datF, bs_toList]
theorem fileR_inv {v : Value} {y : DataW Unit × List MemPlace} (h : fileR v = some y) : ∃ x, v = csF x ∧ y = (datF x, []) := by
  unfold fileR at h
  split at h
  · rename_i cs
    split at h
    · rename_i a b hc
      injection h with h
      subst h
      refine ⟨(a.data.toList, b.data.toList), ?_, rfl⟩
      have : cs = #[.string a, .string b] := by rw [← hc]
      rw [this]
      simp [csF, bs_of]
    · cases h
  · cases h
theorem datF_inj {x y : Fl} (h : datF x = datF y) : x = y := by
  obtain ⟨a, b⟩ := x
  obtain ⟨c, d⟩ := y
  simp only [datF, DataW.agg.injEq, List.cons.injEq, DataW.lit.injEq, Lit.string.injEq, and_true] at h
  rw [h.1, h.2]
theorem intKeyed : Keyed Tryd.prog 3 := int_keyed Tryd.underlying3
theorem intKey (z : Int) (h : I64 z) : keyOf Tryd.prog 3 (.int .i64 z) = some (.int .i64 z) :=
  keyOf_int_mk Tryd.underlying3 (by
    obtain ⟨h1, h2⟩ := h
    simp [Lit.wf, IntKind.min, IntKind.max, IntKind.bits, IntKind.signed]
    omega)
set_option maxRecDepth 100000 in
theorem zeroF (w : World) : (zeroValue 81).run Tryd.prog w = .ok (csF ([], [])) w := by kernel_rfl
section
variable {w w' : World} {b m : Nat} {fl : Int → Fl}
/-- Block b is a map of the call's own, of files. -/
def FOwn (w : World) (b : Nat) (fl : Int → Fl) (m : Nat) : Prop :=
  ∃ D n, w.ownsMap Tryd.prog 3 fileR b n D ∧ n ≤ m ∧ ∀ z, D.atKey (.int .i64 z) (datF ([], [])) = datF (fl z)
theorem FOwn.made (w : World) : FOwn (w.alloc (.map #[] 0)) w.heap.size (fun _ => ([], [])) 0 := ⟨_, 0, World.ownsMap_made w _ _ _, Nat.le_refl _, fun _ => rfl⟩
theorem FOwn.lt (h : FOwn w b fl m) : b < w.heap.size := by obtain ⟨D, n, h1, _⟩ := h; exact h1.lt
theorem FOwn.mono {m' : Nat} (h : FOwn w b fl m) (hm : m ≤ m') : FOwn w b fl m' := by obtain ⟨D, n, h1, h2, h3⟩ := h; exact ⟨D, n, h1, Nat.le_trans h2 hm, h3⟩
theorem FOwn.kept {row : Option Nat} (h : FOwn w b fl m) (hg : w.grownBy w' row) (hne : some b ≠ row) : FOwn w' b fl m := by
  obtain ⟨D, n, h1, h2, h3⟩ := h
  exact ⟨D, n, h1.kept hg hne, h2, h3⟩
theorem FOwn.at_ (h : FOwn w b fl m) (he : w'.heap[b]? = w.heap[b]?) : FOwn w' b fl m := by
  obtain ⟨D, n, ⟨es, clock, hb, F, hs, hD⟩, h2, h3⟩ := h
  exact ⟨D, n, ⟨es, clock, he.trans hb, F, hs, hD⟩, h2, h3⟩
set_option maxRecDepth 100000 in
theorem FOwn.look (h : FOwn w b fl m) {z : Int} (hz : I64 z) : (Instr.lookup 56 (.map (some b)) (.int .i64 z) false).run Tryd.prog w = .ok (csF (fl z)) w := by
  obtain ⟨D, n, h1, _, h3⟩ := h
  obtain ⟨v, ps, hr, hv⟩ := h1.lookup intKeyed Tryd.underlying56 (zeroF w) (fileR_cs ([], [])) (intKey z hz)
  rw [h3 z] at hv
  obtain ⟨x, rfl, hx⟩ := fileR_inv hv
  injection hx with hx _
  rw [hr, ← datF_inj hx]
set_option maxRecDepth 100000 in
theorem FOwn.put (h : FOwn w b fl m) {z : Int} (hz : I64 z) (hm : m < maxLen) (x : Fl) :
    ∃ w2, (Instr.mapUpdate 56 (.map (some b)) (.int .i64 z) (csF x)).run Tryd.prog w = .ok () w2 ∧ FOwn w2 b (fun y => if y = z then x else fl y) (m + 1) ∧ w.grownBy w2 (some b) := by
  obtain ⟨D, n, h1, h2, h3⟩ := h
  obtain ⟨w2, hr, h5, hg⟩ := h1.update intKeyed Tryd.underlying56 (Nat.lt_of_le_of_lt h2 hm) (intKey z hz) (fileR_cs x)
  refine ⟨w2, hr, ⟨D.put (.int .i64 z) (datF x), _, h5, by omega, fun y => ?_⟩, hg⟩
  show _ = datF (if y = z then x else fl y)
  by_cases e : y = z
  · subst e
    rw [if_pos rfl, atKey_put_same h1.isMap (show WideAt.IsKeyLit (.int .i64 y) from trivial)]
  · rw [if_neg e, atKey_put_other (fun h => e (by injection h)), h3 y]
end
theorem laidOutJ : laidOutB Tryd.prog = true := by kernel_rfl
theorem secLaw : KeyLaw Tryd.prog 79 := deep_law_laid laidOutJ (m := 2) (by omega) (of_decide_eq_true (by kernel_rfl)) (by kernel_rfl) (by rw [Tryd.underlying79])
set_option maxRecDepth 100000 in
theorem secKeyed : Keyed Tryd.prog 79 := Keyed.of_law secLaw
def csS (x : Int × Int) : Value := .agg #[.int .i64 x.1, .int .i64 x.2]
theorem i64_wf {z : Int} (h : I64 z) : (Lit.int .i64 z).wf = true := by
  obtain ⟨h1, h2⟩ := h
  simp [Lit.wf, IntKind.min, IntKind.max, IntKind.bits, IntKind.signed]
  omega
theorem wf_i64' {z : Int} (h : (Lit.int .i64 z).wf = true) : I64 z := by
  simp [Lit.wf, IntKind.min, IntKind.max, IntKind.bits, IntKind.signed] at h
  exact ⟨by omega, by omega⟩
theorem keyT : Tryd.prog.keyType 79 = true := by kernel_rfl
theorem cells1 : Tryd.prog.cellsOf 3 = 1 := by kernel_rfl
theorem cells2 : Tryd.prog.cellsOf 79 = 2 := by kernel_rfl
theorem keyLits_int (d : Nat) (z : Int) (h : I64 z) : Tryd.prog.keyLits (d + 1) 3 [.int .i64 z] = some [.int .i64 z] := by
  simp [Program.keyLits, Tryd.underlying3, i64_wf h]
set_option maxRecDepth 100000 in
theorem secKey (x : Int × Int) (h1 : I64 x.1) (h2 : I64 x.2) : ∃ kl, keyOf Tryd.prog 79 (csS x) = some kl := by
  obtain ⟨d, hd⟩ : ∃ d, Tryd.prog.types.size + 1 = d + 1 + 1 := ⟨Tryd.prog.types.size - 1, by have : 1 ≤ Tryd.prog.types.size := of_decide_eq_true (by kernel_rfl); omega⟩
  refine ⟨.string (keyBytes [.int .i64 x.1, .int .i64 x.2]), ?_⟩
  unfold keyOf
  rw [Tryd.underlying79]
  simp only [keyT, csS]
  have hf : (Value.agg #[Value.int .i64 x.1, Value.int .i64 x.2]).formed Tryd.prog 79 = true := by simp [Value.formed, Tryd.underlying79, cells2]
  rw [hf, hd]
  have hl : Tryd.prog.keyLits (d + 1 + 1) 79 [.int .i64 x.1, .int .i64 x.2] = some [.int .i64 x.1, .int .i64 x.2] := by
    simp [Program.keyLits, Tryd.underlying79, Tryd.underlying3, cells2, cells1, i64_wf h1, i64_wf h2]
  simp [Value.cells, hl]
set_option maxRecDepth 100000 in
theorem keyLits_int_inv {d : Nat} {c : Value} {ls : List Lit} (h : Tryd.prog.keyLits (d + 1) 3 [c] = some ls) : ∃ z, c = .int .i64 z ∧ I64 z := by
  unfold Program.keyLits at h
  rw [Tryd.underlying3] at h
  cases c <;> simp at h
  obtain ⟨⟨rfl, hw⟩, _⟩ := h
  exact ⟨_, rfl, wf_i64' hw⟩
set_option maxRecDepth 100000 in
theorem secKey_inv {key : Value} {kl : Lit} (h : keyOf Tryd.prog 79 key = some kl) : ∃ x : Int × Int, key = csS x ∧ I64 x.1 ∧ I64 x.2 := by
  obtain ⟨d, hd⟩ : ∃ d, Tryd.prog.types.size + 1 = d + 1 + 1 := ⟨Tryd.prog.types.size - 1, by have : 1 ≤ Tryd.prog.types.size := of_decide_eq_true (by kernel_rfl); omega⟩
  unfold keyOf at h
  rw [Tryd.underlying79, hd] at h
  simp only [keyT, Bool.true_and] at h
  split at h
  · rename_i hf
    obtain ⟨ls, hls, _⟩ := Option.map_eq_some_iff.1 h
    cases key with
    | agg cs =>
      simp [Value.formed, Tryd.underlying79, cells2] at hf
      obtain ⟨c0, c1, hc⟩ : ∃ c0 c1, cs.toList = [c0, c1] := by
        match hcs : cs.toList with
        | [c0, c1] => exact ⟨c0, c1, rfl⟩
        | [] => have := congrArg List.length hcs; rw [Array.length_toList, hf] at this; simp at this
        | [_] => have := congrArg List.length hcs; rw [Array.length_toList, hf] at this; simp at this
        | _ :: _ :: _ :: _ => have := congrArg List.length hcs; rw [Array.length_toList, hf] at this; simp at this
      have hcs : cs = #[c0, c1] := by rw [← hc]
      subst hcs
      simp only [Value.cells] at hls
      unfold Program.keyLits at hls
      rw [Tryd.underlying79] at hls
      simp [cells2, cells1] at hls
      obtain ⟨l0, h0, h1⟩ := Option.bind_eq_some_iff.1 hls
      obtain ⟨l1, h2, _⟩ := Option.map_eq_some_iff.1 h1
      obtain ⟨l2, h3, _⟩ := Option.bind_eq_some_iff.1 h2
      obtain ⟨l4, h4, _⟩ := Option.bind_eq_some_iff.1 h3
      obtain ⟨z0, rfl, i0⟩ := keyLits_int_inv h0
      obtain ⟨z1, rfl, i1⟩ := keyLits_int_inv h4
      exact ⟨(z0, z1), rfl, i0, i1⟩
    | _ => simp [Value.formed, Tryd.underlying79] at hf
  · cases h
/-- The set of sectors: what it says does not matter. -/
def SOwn (w : World) (b m : Nat) : Prop := ∃ (D : DataW Unit) (n : Nat), w.ownsMap Tryd.prog 79 (plainElem Tryd.prog 4) b n D ∧ n ≤ m
set_option maxRecDepth 100000 in
theorem plain_bool_inv {v : Value} {y : DataW Unit × List MemPlace} (h : plainElem Tryd.prog 4 v = some y) : ∃ x, v = .bool x := by
  unfold plainElem at h
  rw [Tryd.underlying4] at h
  cases v <;> simp at h
  exact ⟨_, rfl⟩
theorem zeroB (w : World) : (zeroValue 4).run Tryd.prog w = .ok (.bool false) w := by kernel_rfl
section
variable {w w' : World} {b m : Nat}
theorem SOwn.made (w : World) : SOwn (w.alloc (.map #[] 0)) w.heap.size 0 := ⟨_, 0, World.ownsMap_made w _ _ _, Nat.le_refl _⟩
theorem SOwn.lt (h : SOwn w b m) : b < w.heap.size := by obtain ⟨D, n, h1, _⟩ := h; exact h1.lt
theorem SOwn.mono {m' : Nat} (h : SOwn w b m) (hm : m ≤ m') : SOwn w b m' := by obtain ⟨D, n, h1, h2⟩ := h; exact ⟨D, n, h1, Nat.le_trans h2 hm⟩
theorem SOwn.at_ (h : SOwn w b m) (he : w'.heap[b]? = w.heap[b]?) : SOwn w' b m := by
  obtain ⟨D, n, ⟨es, clock, hb, F, hs, hD⟩, h2⟩ := h
  exact ⟨D, n, ⟨es, clock, he.trans hb, F, hs, hD⟩, h2⟩
set_option maxRecDepth 100000 in
theorem SOwn.look (h : SOwn w b m) (x : Int × Int) (h1 : I64 x.1) (h2 : I64 x.2) : ∃ r, (Instr.lookup 57 (.map (some b)) (csS x) false).run Tryd.prog w = .ok (.bool r) w := by
  obtain ⟨D, n, ho, _⟩ := h
  obtain ⟨kl, hk⟩ := secKey x h1 h2
  obtain ⟨v, ps, hr, hv⟩ := ho.lookup secKeyed Tryd.underlying57 (zeroB w) (plainElem_bool Tryd.underlying4 false) hk
  obtain ⟨r, rfl⟩ := plain_bool_inv hv
  exact ⟨r, hr⟩
set_option maxRecDepth 100000 in
/-- An entry is found or made, then written. -/
theorem SOwn.entry (h : SOwn w b m) (x : Int × Int) (h1 : I64 x.1) (h2 : I64 x.2) (hm : m < maxLen) : ∃ (v0 : Value) (st : Nat) (w1 : World), (Instr.mapEntry 57 (.map (some b)) (csS x)).run Tryd.prog w = .ok (.tuple #[v0, goInt st]) w1 ∧ w.grownBy w1 (some b) ∧
    ∃ w2, (Instr.entryStore 57 (.map (some b)) (goInt st) (.bool true)).run Tryd.prog w1 = .ok () w2 ∧ w1.grownBy w2 (some b) ∧ SOwn w2 b (m + 1) := by
  obtain ⟨D, n, ho, hn⟩ := h
  obtain ⟨kl, hk⟩ := secKey x h1 h2
  obtain ⟨w3, hu, ho3, _⟩ := ho.update secKeyed Tryd.underlying57 (Nat.lt_of_le_of_lt hn hm) hk (plainElem_bool Tryd.underlying4 true)
  obtain ⟨es, clock, hb, F, hs, rfl⟩ := ho
  obtain ⟨v0, st, es1, clock1, hr, _, hst⟩ := Go.WideElems.entry_then_store secLaw Tryd.underlying57 zeroB hb F hk
  have hb1 : (setBlock w b (.map es1 clock1)).heap[b]? = some (.map es1 clock1) := heap_setBlock_same hb _
  obtain ⟨es2, clock2, hr2, hr3⟩ := hst _ (.bool true) hb1
  have e3 : w3 = setBlock w b (.map es2 clock2) := by rw [hr3] at hu; injection hu with _ hu; exact hu.symm
  subst e3
  have gb : ∀ (u : World) (o : Obj), u.grownBy (setBlock u b o) (some b) := fun u o => ⟨rfl, rfl, rfl, by simp [setBlock], fun i _ hi => by
    unfold setBlock
    simp only
    rw [Array.getElem?_setIfInBounds_ne (fun e => hi (by rw [e]))]⟩
  refine ⟨v0, st, _, hr, gb _ _, _, hr2, gb _ _, ?_⟩
  have e4 : setBlock (setBlock w b (.map es1 clock1)) b (.map es2 clock2) = setBlock w b (.map es2 clock2) := by simp [setBlock]
  rw [e4]
  exact ⟨_, _, ho3, by omega⟩
end
end Go.Proofs.YtbefmjodpndndaaDoor
namespace Go.Proofs.YtbefmjodpndndaaDoor
open Go.RowKit Go.IntWalk

theorem infoU8 : (Tryd.prog.info? 5).map (fun i => (i.zero, i.size, i.bytes)) = some (some (.int .u8 0), 1, 1) := by kernel_rfl
def bcs (l : Bs) : List Value := l.map fun b => Value.int .u8 (b.toNat : Int)
theorem bcs_eq (l : Bs) : Lib.byteCells l = bcs l := rfl
theorem bcs_app (a b : Bs) : bcs (a ++ b) = bcs a ++ bcs b := by simp [bcs]
theorem bcs_len (a : Bs) : (bcs a).length = a.length := by simp [bcs]
theorem bcs_take (a : Bs) (n : Nat) : (bcs a).take n = bcs (a.take n) := by simp [bcs, List.map_take]
theorem bcs_drop (a : Bs) (n : Nat) : (bcs a).drop n = bcs (a.drop n) := by simp [bcs, List.map_drop]
theorem made_bytes (N : Nat) : (madeCells #[Value.int .u8 0] N).toList = bcs (List.replicate N 0) := by
  simp [madeCells, bcs, Nat.mod_one, List.map_const']
theorem addr_at (b o j : Nat) : (⟨b, o, none⟩ : Addr).add j = ⟨b, o + j, none⟩ := by unfold Addr.add; by_cases h0 : j = 0 <;> simp [h0]
theorem bs_tl (l : Bs) : (bs l).toList = l := by rw [ByteArray.toList_eq, bs_toList]
theorem put_pad (s : Bs) (p : Nat) (t : Bs) (ht : t ≠ []) (N : Nat) (hN : N = max s.length (p + t.length)) :
    (s ++ (List.replicate N 0).drop s.length).take p ++ t ++ (s ++ (List.replicate N 0).drop s.length).drop (p + t.length) = putL s p t := by
  refine ext_getD (by
    rw [putL_len, if_neg ht]
    simp only [List.length_append, List.length_take, List.length_drop, List.length_replicate]
    omega) fun i hi => ?_
  rw [putL_get]
  have hl : ((s ++ (List.replicate N 0).drop s.length).take p).length = p := by
    simp only [List.length_take, List.length_append, List.length_drop, List.length_replicate]; omega
  have hpad : ∀ i, (s ++ (List.replicate N (0 : UInt8)).drop s.length).getD i 0 = s.getD i 0 := by
    intro i
    by_cases h : i < s.length
    · rw [gd_app _ _ _ h]
    · rw [gd_appR _ _ _ (by omega)]
      have e1 : s.getD i 0 = 0 := by rw [List.getD_eq_getElem?_getD, List.getElem?_eq_none_iff.2 (by omega)]; rfl
      rw [e1, List.getD_eq_getElem?_getD, List.getElem?_drop, List.getElem?_replicate]
      split <;> rfl
  by_cases h1 : i < p
  · rw [if_neg (by omega), List.append_assoc, gd_app _ _ _ (by rw [hl]; exact h1), List.getD_eq_getElem?_getD, List.getElem?_take_of_lt h1, ← List.getD_eq_getElem?_getD, hpad]
  · by_cases h2 : i < p + t.length
    · rw [if_pos ⟨by omega, h2⟩, List.append_assoc, gd_appR _ _ _ (by rw [hl]; omega), hl, gd_app _ _ _ (by omega)]
    · rw [if_neg (by omega), gd_appR _ _ _ (by rw [List.length_append, hl]; omega), List.length_append, hl, List.getD_eq_getElem?_getD, List.getElem?_drop, ← List.getD_eq_getElem?_getD, hpad]
      congr 1
      omega
set_option maxRecDepth 100000 in
set_option maxHeartbeats 4000000 in
theorem put_any (s t : Bs) (p : Nat) (w : World) (hs : s.length ≤ 16777216) (ht : t.length ≤ 16777216) (hp : p ≤ 16777216) :
    Calls Tryd.prog 43 #[.string (bs s), .int .i64 (p : Int), .string (bs t)] w fun e w' => e = .returned (.string (bs (putL s p t))) ∧ Below w.heap.size w w' := by
  by_cases h0 : t = []
  · subst h0
    have e0 : bs [] = ⟨#[]⟩ := rfl
    rw [e0, putL_nil]
    go_enter Tryd.func43, Tryd.ntmps43
    go_wp2_with fail
    go_ret
    exact ⟨rfl, by (repeat (first | exact Below.refl _ _ | assumption | refine below_drewN ?_ _ | refine Below.drew ?_ | refine Below.alloc ?_ (by (try simp); (try omega)) _ | refine Below.setCell ?_ (by (try simp); (try omega)) _))⟩
  have hpos : 0 < t.length := List.length_pos_iff.2 h0
  obtain ⟨N, hN⟩ : ∃ N, N = max s.length (p + t.length) := ⟨_, rfl⟩
  have hNb : N ≤ 33554432 := by omega
  obtain ⟨i0, hi, hz0, hz1, hz2⟩ := info_parts infoU8
  have hinfo : (Tryd.prog.info? 5).map (·.size) = some 1 := by rw [hi]; simp [hz1]
  have hmk : ∀ W : World, (Instr.makeSlice 29 (.int .i64 (N : Int)) (.int .i64 (N : Int))).run Tryd.prog W = .ok (.slice (some ⟨W.heap.size, 0, none⟩) N N) (W.alloc (.cells (madeCells #[Value.int .u8 0] N) 5)) := fun W => by
    have h := run_make_rowN (P := Tryd.prog) 29 5 i0 _ Tryd.underlying29 hi hz0 .i64 .i64 N N (Nat.le_refl _) (by rw [hz2]; omega) (by omega) W
    rw [hz1, Nat.mul_one] at h
    exact h
  obtain ⟨M, hM⟩ : ∃ M, M = madeCells #[Value.int .u8 0] N := ⟨_, rfl⟩
  have hMl : M.toList = bcs (List.replicate N 0) := by rw [hM, made_bytes]
  have hMs : M.size = N := by rw [← Array.length_toList, hMl, bcs_len, List.length_replicate]
  rw [← hM] at hmk
  clear hM
  obtain ⟨w1, hw1⟩ : ∃ w1, w1 = w.alloc (.cells M 5) := ⟨_, rfl⟩
  have hg1 : w1.heap[w.heap.size]? = some (.cells M 5 (0, 0)) := by rw [hw1]; exact heap_alloc_new w _
  have hcp1 := Lib.run_copy_row_string (P := Tryd.prog) w1 29 9 3 5 w.heap.size 0 N N (bs s) M 5 Tryd.underlying29 hinfo hg1 (by rw [bs_size]; omega) (by rw [bs_size, hMs]; omega)
  obtain ⟨Y, hY⟩ : ∃ Y, Y = (M.toList.take 0 ++ Lib.byteCells (bs s).data.toList ++ M.toList.drop (0 + (bs s).size)).toArray := ⟨_, rfl⟩
  rw [← hY] at hcp1
  have hYl : Y.toList = bcs (s ++ (List.replicate N 0).drop s.length) := by
    rw [hY, List.take_zero, List.nil_append, bs_toList, bcs_eq, hMl, Nat.zero_add, bs_size, bcs_drop, bcs_app]
  have hYs : Y.size = N := by rw [← Array.length_toList, hYl, bcs_len, List.length_append, List.length_drop, List.length_replicate]; omega
  obtain ⟨w2, hw2⟩ : ∃ w2, w2 = w1.setRow w.heap.size Y := ⟨_, rfl⟩
  have hg2 : w2.heap[w.heap.size]? = some (.cells Y 5 (0, 0)) := by rw [hw2]; exact setRow_heap _ _ M _ 5 (0, 0) hg1
  have hcp2 := Lib.run_copy_row_string (P := Tryd.prog) w2 29 9 3 5 w.heap.size p (N - p) (N - p) (bs t) Y 5 Tryd.underlying29 hinfo hg2 (by rw [bs_size]; omega) (by rw [bs_size, hYs]; omega)
  obtain ⟨Z, hZ⟩ : ∃ Z, Z = (Y.toList.take p ++ Lib.byteCells (bs t).data.toList ++ Y.toList.drop (p + (bs t).size)).toArray := ⟨_, rfl⟩
  rw [← hZ] at hcp2
  have hZl : Z.toList = bcs (putL s p t) := by
    rw [hZ, bs_toList, bcs_eq, hYl, bs_size, bcs_take, bcs_drop, ← bcs_app, ← bcs_app, put_pad s p t h0 N hN]
  have hpl : (putL s p t).length = N := by rw [putL_len, if_neg h0, hN]
  obtain ⟨w3, hw3⟩ : ∃ w3, w3 = w2.setRow w.heap.size Z := ⟨_, rfl⟩
  have hg3 : w3.heap[w.heap.size]? = some (.cells Z 5 (0, 0)) := by rw [hw3]; exact setRow_heap _ _ Y _ 5 (0, 0) hg2
  have hcv := run_convert_bytes_back (P := Tryd.prog) w3 29 9 5 ⟨w.heap.size, 0, none⟩ N (putL s p t) Tryd.underlying29 Tryd.underlying5 Tryd.underlying9 (fun j hj => by
    rw [addr_at, Nat.zero_add, cell_of_row w3 _ _ Z 5 (0, 0) hg3]
    have : Z[j]? = Z.toList[j]? := by simp
    rw [this, hZl]
    simp [bcs, hj])
  rw [hpl, ← show bs (putL s p t) = ⟨(putL s p t).toArray⟩ from rfl] at hcv
  rw [← hw2] at hcp1
  rw [← hw3] at hcp2
  have hB : Below w.heap.size w w3 := by
    have b1 : Below w.heap.size w w1 := by rw [hw1]; (repeat (first | exact Below.refl _ _ | assumption | refine below_drewN ?_ _ | refine Below.drew ?_ | refine Below.alloc ?_ (by (try simp); (try omega)) _ | refine Below.setCell ?_ (by (try simp); (try omega)) _))
    have b2 : Below w.heap.size w1 w2 := by rw [hw2]; exact ⟨rfl, rfl, rfl, by simp, fun k hk => setRow_other _ _ _ _ (by omega)⟩
    have b3 : Below w.heap.size w2 w3 := by rw [hw3]; exact ⟨rfl, rfl, rfl, by simp, fun k hk => setRow_other _ _ _ _ (by omega)⟩
    exact b1.trans (b2.trans b3)
  have HB := hid hB
  rw [bs_size] at hcp1 hcp2
  have hmx : (max (s.length : Int) ((p : Int) + t.length)) = (N : Int) := by omega
  have hsz1 := bs_size s
  have hsz2 := bs_size t
  have hemp : (bs t).toList.isEmpty = false := by rw [bs_tl, List.isEmpty_eq_false_iff]; exact h0
  clear hN hY hZ hZl hYl hMl hg1 hg2 hg3 hB hw2 hw3 hYs hMs hpl hz0 hz1 hz2 hi hinfo
  go_enter Tryd.func43, Tryd.ntmps43
  have hadr : (if (p : Int) < N then some (⟨w.heap.size, p, none⟩ : Addr) else none) = some ⟨w.heap.size, p, none⟩ := if_pos (by omega)
  go_upto_region 4 with fail
  rw [← hw1]
  clear hw1 hmk
  go_wp2
  go_ret
  exact ⟨rfl, HB.out⟩
end Go.Proofs.YtbefmjodpndndaaDoor
namespace Go.Proofs.YtbefmjodpndndaaDoor
open Go.RowKit Go.IntWalk

/-- What has changed lies in S. -/
structure Chg (w w' : World) (S : Nat → Prop) : Prop where
  os : w'.os = w.os
  tape : w'.tape = w.tape
  output : w'.output = w.output
  size : w.heap.size ≤ w'.heap.size
  block : ∀ k, k < w.heap.size → ¬ S k → w'.heap[k]? = w.heap[k]?
theorem Chg.of_below {w w' : World} (h : Below w.heap.size w w') (S : Nat → Prop) : Chg w w' S := ⟨h.os, h.tape, h.output, h.size, fun k hk _ => h.block k hk⟩
theorem Chg.of_grown {w w' : World} {r : Option Nat} (h : w.grownBy w' r) {S : Nat → Prop} (hS : ∀ k, some k = r → S k) : Chg w w' S := ⟨h.os, h.tape, h.output, h.size, fun k hk hn => h.block k hk (fun e => hn (hS k e))⟩
theorem Chg.trans {w w1 w2 : World} {S S' : Nat → Prop} (h : Chg w w1 S) (h' : Chg w1 w2 S') (hS : ∀ k, k < w.heap.size → S' k → S k) : Chg w w2 S :=
  ⟨h'.os.trans h.os, h'.tape.trans h.tape, h'.output.trans h.output, Nat.le_trans h.size h'.size, fun k hk hn => (h'.block k (Nat.lt_of_lt_of_le hk h.size) (fun e => hn (hS k hk e))).trans (h.block k hk hn)⟩
theorem Chg.blk {w w' : World} {S : Nat → Prop} (h : Chg w w' S) {g : Nat} {t : TypeId} {cs : Array Value} (hb : Blk w g t cs) (hS : ¬ S g) : Blk w' g t cs := (h.block g hb.lt hS).trans hb
theorem Chg.row {w w' : World} {S : Nat → Prop} (h : Chg w w' S) {base : Nat} {e : TypeId} {s n : Nat} {v : Value} {xs : List Value} (ho : w.ownsRow base e s v n xs) (hS : ∀ g, v.ownBlock = some g → ¬ S g) : w'.ownsRow base e s v n xs := by
  refine ⟨ho.1, ?_⟩
  rcases ho.2 with h1 | ⟨g, cap, cur, rfl, h2, h3, h4⟩
  · exact .inl h1
  · exact .inr ⟨g, cap, cur, rfl, h2, h.blk (cs := cur) h3 (hS g rfl), h4⟩
theorem Chg.low {w0 w w' : World} {S : Nat → Prop} (h : Chg w w' S) (hb : Below w0.heap.size w0 w) (hS : ∀ k, S k → w0.heap.size ≤ k) : Below w0.heap.size w0 w' :=
  hb.trans ⟨h.os, h.tape, h.output, h.size, fun k hk => h.block k (Nat.lt_of_lt_of_le hk hb.size) (fun e => by have := hS k e; omega)⟩


theorem grown_s (w : World) (b i : Nat) (u : Value) : w.grownBy (w.setCell ⟨b, i, none⟩ u) (some b) := gr_set w b i u
theorem Chg.refl (w : World) (S : Nat → Prop) : Chg w w S := ⟨rfl, rfl, rfl, Nat.le_refl _, fun _ _ _ => rfl⟩
theorem Chg.mono {w w' : World} {S S' : Nat → Prop} (h : Chg w w' S) (hS : ∀ k, S k → S' k) : Chg w w' S' := ⟨h.os, h.tape, h.output, h.size, fun k hk hn => h.block k hk (fun e => hn (hS k e))⟩
def secRK : RK (Int × Int) where
  e := 79
  t := 58
  size := 2
  bytes := 16
  z := .agg #[.int .i64 0, .int .i64 0]
  cs x := [.int .i64 x.1, .int .i64 x.2]
  ok x := I64 x.1 ∧ I64 x.2
  und := Tryd.underlying58
  info := by kernel_rfl
  zcs := rfl
  pos := by omega
  small := by omega
  len _ := rfl
  one x v hv := by simp at hv; rcases hv with rfl | rfl <;> rfl
  rsz := rfl
  rep w B x h := ⟨[.int .i64 x.1], [.int .i64 x.2], rfl, rfl, rfl, ⟨rfl, h.1⟩, rfl, h.2⟩
  inv w B c x h := by obtain ⟨c1, c2, rfl, _, _, ⟨rfl, i0⟩, rfl, i1⟩ := h; exact ⟨rfl, i0, i1⟩
/-- append of elements, with the place of the row. -/
theorem RK.appS2 {T : Type} [Rep T] (R : RK T) {w : World} {base B : Nat} {A : Option Addr} {v : Value} {l : List T} {F : Fence} {n0 : Nat} {o : Oper} {a : Act} {K : Act → World → Prop} {Q : Exit → Act → World → Prop} (hF : ∀ f, F.fn f) (s x : Operand)
    (ho : o.op = .call { callee := .builtin .append, args := #[s, x], argTypes := #[R.t, R.t] }) {ys : List T} {c : Nat} (hv : a.eval s = v) (hown : R.Own w base v l) (hx : a.eval x = .slice A ys.length c) (hs : SlR w B A ys) (h0 : 0 < ys.length) (hlen : l.length + ys.length ≤ 100000000) (hbase : base ≤ w.heap.size)
    (h : ∀ v' w', R.Own w' base v' (l ++ ys) → w.grownBy w' v.ownBlock → (∀ g, v'.ownBlock = some g → v.ownBlock = some g ∨ w.heap.size ≤ g) → K (a.put o.dst v') w') : Oper.wpIn F n0 Tryd.prog o a w K Q := by
  obtain ⟨i0, hi, hz0, hz1, hz2⟩ := info_parts R.info
  have hmx : l.length + ys.length ≤ maxLen := by unfold maxLen; omega
  obtain ⟨b, off, rfl, _⟩ := R.elem hs h0
  obtain ⟨v', w', hr, h2, h3, _, h5⟩ := run_append_own_at (P := Tryd.prog) w base R.t o.type R.e i0 _ R.size R.bytes R.und hi hz0 hz1 hz2 R.zcs R.pos v l.length _ hown ⟨b, off, none⟩ ys.length c (R.all ys) (R.all_len ys) (R.src hs) (R.all_oneC ys) hmx (by
      have := R.small
      calc (l.length + ys.length) * R.bytes ≤ 100000000 * 1000 := Nat.mul_le_mul hlen this
        _ ≤ _ := by omega) hbase
  refine uponIn_of_value (v := v') (w' := w') hF (by rw [ho]; intro c hc; cases hc) ?_ (h v' w' ?_ h3 (fun g hg => h5.elim (fun e => .inl (e ▸ hg)) (fun e => .inr (by rw [e] at hg; injection hg with hg; omega))))
  · unfold execOp
    simp only [ho, resolve, invoke, builtin, Sem.run_bind, Sem.run_pure, Result.andThen_ok, List.map_toArray, List.map_cons, List.map_nil, hv, hx, hr]
  · unfold RK.Own
    rw [List.length_append, R.all_app]
    exact h2
/-- A disk, plain. -/
structure DS where
  fl : Int → Fl
  lost : Int
  down : Bool
  armed : Int
/-- Where its parts lie. -/
structure DL where
  mf : Nat
  ms : Nat
  q : Value
  kv : Value
structure DS.Ok (s : DS) : Prop where
  now : ∀ f, (s.fl f).1.length ≤ 16777216
  le : ∀ f, (s.fl f).2.length ≤ (s.fl f).1.length
  lost : 0 ≤ s.lost ∧ s.lost ≤ 9223372036854775807
  armed : 0 ≤ s.armed ∧ s.armed ≤ 9223372036854775807
def SecOK (x : Int × Int) : Prop := 0 ≤ x.1 ∧ x.1 < 16 ∧ 0 ≤ x.2 ∧ x.2 ≤ 1000000
/-- Block b is a disk; its other blocks lie from base on; at most N files, sectors. -/
structure Dsk (w : World) (base b : Nat) (L : DL) (s : DS) (N : Nat) : Prop where
  d : Blk w b 60 #[.map (some L.mf), L.q, .map (some L.ms), .int .i64 s.lost, .bool s.down, .int .i64 s.armed, L.kv]
  f : FOwn w L.mf s.fl N
  st : SOwn w L.ms N
  q : ∃ l : List (Int × Int), secRK.Own w base L.q l ∧ l.length ≤ N ∧ ∀ x ∈ l, SecOK x
  k : ∃ l : List Int, OwnI w base L.kv l ∧ l.length ≤ 65536 ∧ ∀ x ∈ l, I64 x
  ne : L.mf ≠ L.ms
  hb : base ≤ b ∧ base ≤ L.mf ∧ base ≤ L.ms
  ok : s.Ok
/-- What a call on a disk may write. -/
def DFP (b : Nat) (L : DL) (k : Nat) : Prop := k = b ∨ k = L.mf ∨ k = L.ms ∨ L.q.ownBlock = some k ∨ L.kv.ownBlock = some k
section
variable {w w' : World} {base b : Nat} {L : DL} {s : DS} {N : Nat}
theorem cells_ne_map {g m : Nat} {t : TypeId} {cs : Array Value} {es : Array MapEntry} {clock : Nat} (h1 : Blk w g t cs) (h2 : w.heap[m]? = some (.map es clock)) : g ≠ m := by
  rintro rfl
  unfold Blk at h1
  rw [h1] at h2
  cases h2
theorem FOwn.heap {m : Nat} {fl : Int → Fl} (h : FOwn w b fl m) : ∃ es clock, w.heap[b]? = some (.map es clock) := by
  obtain ⟨D, n, ⟨es, clock, hb, _⟩, _⟩ := h
  exact ⟨es, clock, hb⟩
theorem SOwn.heap {m : Nat} (h : SOwn w b m) : ∃ es clock, w.heap[b]? = some (.map es clock) := by
  obtain ⟨D, n, ⟨es, clock, hb, _⟩, _⟩ := h
  exact ⟨es, clock, hb⟩
theorem own_ne_map {e : TypeId} {size n : Nat} {v : Value} {xs : List Value} {m : Nat} {es : Array MapEntry} {clock : Nat} (h : w.ownsRow base e size v n xs) (h2 : w.heap[m]? = some (.map es clock)) : v.ownBlock ≠ some m := by
  intro e
  obtain ⟨_, cs, hb⟩ := own_blk h m e
  exact cells_ne_map hb h2 rfl
theorem own_ne_own {e e2 : TypeId} {size n size2 n2 : Nat} {v v2 : Value} {xs xs2 : List Value} {base2 : Nat} (h : w.ownsRow base e size v n xs) (h2 : w.ownsRow base2 e2 size2 v2 n2 xs2) (hne : e ≠ e2) {k : Nat} (hk : v.ownBlock = some k) : v2.ownBlock ≠ some k := by
  intro e'
  obtain ⟨_, cs, hb⟩ := own_blk h k hk
  obtain ⟨_, cs2, hb2⟩ := own_blk h2 k e'
  exact hb.ne_ hb2 hne rfl
theorem Dsk.lt (h : Dsk w base b L s N) {k : Nat} (hk : DFP b L k) : base ≤ k ∧ k < w.heap.size := by
  obtain ⟨l, hq, _⟩ := h.q
  obtain ⟨l2, hk2, _⟩ := h.k
  rcases hk with rfl | rfl | rfl | hk | hk
  · exact ⟨h.hb.1, h.d.lt⟩
  · exact ⟨h.hb.2.1, h.f.lt⟩
  · exact ⟨h.hb.2.2, h.st.lt⟩
  · exact hq.lt k hk
  · exact hk2.lt k hk
/-- The disk's blocks are as they were: so is the disk. -/
theorem Dsk.kept (h : Dsk w base b L s N) (hk : ∀ k, DFP b L k → w'.heap[k]? = w.heap[k]?) : Dsk w' base b L s N := by
  obtain ⟨l, hq, hl, hx⟩ := h.q
  obtain ⟨l2, hk2, hl2, hx2⟩ := h.k
  exact ⟨(hk b (.inl rfl)).trans h.d, h.f.at_ (hk _ (.inr (.inl rfl))), h.st.at_ (hk _ (.inr (.inr (.inl rfl)))),
    ⟨l, own_kept hq (fun g cs hg hB => (hk g (.inr (.inr (.inr (.inl hg))))).trans hB), hl, hx⟩,
    ⟨l2, own_kept hk2 (fun g cs hg hB => (hk g (.inr (.inr (.inr (.inr hg))))).trans hB), hl2, hx2⟩, h.ne, h.hb, h.ok⟩
theorem Dsk.chg {S : Nat → Prop} (h : Dsk w base b L s N) (hc : Chg w w' S) (hS : ∀ k, DFP b L k → ¬ S k) : Dsk w' base b L s N := h.kept (fun k hk => hc.block k (h.lt hk).2 (hS k hk))
theorem Dsk.below (h : Dsk w base b L s N) (hb : Below w.heap.size w w') : Dsk w' base b L s N := h.kept (fun k hk => hb.block k (h.lt hk).2)
theorem Dsk.mono {N' : Nat} (h : Dsk w base b L s N) (hN : N ≤ N') : Dsk w base b L s N' := by
  obtain ⟨l, hq, hl, hx⟩ := h.q
  exact ⟨h.d, h.f.mono hN, h.st.mono hN, ⟨l, hq, Nat.le_trans hl hN, hx⟩, h.k, h.ne, h.hb, h.ok⟩
theorem Dsk.cells (h : Dsk w base b L s N) : w.cell? ⟨b, 0, none⟩ = some (.map (some L.mf)) ∧ w.cell? ⟨b, 1, none⟩ = some L.q ∧ w.cell? ⟨b, 2, none⟩ = some (.map (some L.ms)) ∧ w.cell? ⟨b, 3, none⟩ = some (.int .i64 s.lost) ∧ w.cell? ⟨b, 4, none⟩ = some (.bool s.down) ∧ w.cell? ⟨b, 5, none⟩ = some (.int .i64 s.armed) ∧ w.cell? ⟨b, 6, none⟩ = some L.kv :=
  ⟨h.d.cell 0, h.d.cell 1, h.d.cell 2, h.d.cell 3, h.d.cell 4, h.d.cell 5, h.d.cell 6⟩
/-- A number, or whether it is down, stored anew. -/
theorem Dsk.set (h : Dsk w base b L s N) (i : Nat) (u : Value) (s' : DS) (hcs : (#[Value.map (some L.mf), L.q, .map (some L.ms), .int .i64 s.lost, .bool s.down, .int .i64 s.armed, L.kv] : Array Value).setIfInBounds i u = #[Value.map (some L.mf), L.q, .map (some L.ms), .int .i64 s'.lost, .bool s'.down, .int .i64 s'.armed, L.kv]) (hf : s'.fl = s.fl) (hok : s'.Ok) :
    Dsk (w.setCell ⟨b, i, none⟩ u) base b L s' N ∧ Chg w (w.setCell ⟨b, i, none⟩ u) (DFP b L) := by
  have hg := gr_set w b i u
  obtain ⟨l, hq, hl, hx⟩ := h.q
  obtain ⟨l2, hk2, hl2, hx2⟩ := h.k
  obtain ⟨es, ck, hm⟩ := h.f.heap
  obtain ⟨es2, ck2, hm2⟩ := h.st.heap
  refine ⟨⟨?_, ?_, h.st.at_ (hg.block _ h.st.lt (fun e => cells_ne_map h.d hm2 (by injection e with e; exact e.symm))), ⟨l, hq.kept hg (.inr (own_blk_ne hq h.d (by decide))), hl, hx⟩, ⟨l2, hk2.kept hg (.inr (own_blk_ne hk2 h.d (by decide))), hl2, hx2⟩, h.ne, h.hb, hok⟩, Chg.of_grown hg (fun k e => .inl (by injection e))⟩
  · rw [← hcs]; exact h.d.set_ i u
  · rw [hf]; exact h.f.at_ (hg.block _ h.f.lt (fun e => cells_ne_map h.d hm (by injection e with e; exact e.symm)))
end
/-- How a call on a disk ends. -/
def DRes (w : World) (base b : Nat) (L : DL) (N : Nat) (P : Ending → DS → Prop) (e : Ending) (w' : World) : Prop :=
  ∃ L' s', P e s' ∧ Dsk w' base b L' s' N ∧ Chg w w' (DFP b L) ∧ ∀ k, DFP b L' k → DFP b L k ∨ w.heap.size ≤ k
section
variable {w w' : World} {base b : Nat} {L : DL} {s : DS} {N : Nat}
theorem Dsk.same (h : Dsk w base b L s N) {P : Ending → DS → Prop} {e : Ending} (hP : P e s) (hb : Below w.heap.size w w') : DRes w base b L N P e w' := ⟨L, s, hP, h.below hb, Chg.of_below hb _, fun _ h => .inl h⟩
end
def mayE (s : DS) (f : Int) : Int := if s.down then 9 else if f < 0 ∨ 16 ≤ f then 1 else 0
set_option maxRecDepth 100000 in
theorem may_any (b base : Nat) (L : DL) (s : DS) (N : Nat) (f : Int) (w : World) (h : Dsk w base b L s N) :
    Calls Tryd.prog 46 #[.pointer (some ⟨b, 0, none⟩), .int .i64 f] w fun e w' => e = .returned (.int .i64 (mayE s f)) ∧ w = w' := by
  obtain ⟨c0, c1, c2, c3, c4, c5, c6⟩ := h.cells
  have hlt := h.d.lt
  clear h c0 c1 c2 c3 c5 c6
  unfold mayE
  generalize s.down = dn at *
  cases dn with
  | true =>
    go_enter Tryd.func46, Tryd.ntmps46
    go_wp2_with fail
    go_ret
    exact ⟨rfl, rfl⟩
  | false =>
    by_cases h0 : f < 0
    · have e1 : (if f < 0 ∨ 16 ≤ f then (1 : Int) else 0) = 1 := if_pos (.inl h0)
      simp only [Bool.false_eq_true, if_false, e1]
      clear e1
      go_enter Tryd.func46, Tryd.ntmps46
      go_wp2_with fail
      go_ret
      exact ⟨rfl, rfl⟩
    by_cases h1 : 16 ≤ f
    · have e1 : (if f < 0 ∨ 16 ≤ f then (1 : Int) else 0) = 1 := if_pos (.inr h1)
      simp only [Bool.false_eq_true, if_false, e1]
      clear e1
      go_enter Tryd.func46, Tryd.ntmps46
      go_wp2_with fail
      go_ret
      exact ⟨rfl, rfl⟩
    · have e1 : (if f < 0 ∨ 16 ≤ f then (1 : Int) else 0) = 0 := if_neg (by omega)
      simp only [Bool.false_eq_true, if_false, e1]
      clear e1
      go_enter Tryd.func46, Tryd.ntmps46
      go_wp2_with fail
      go_ret
      exact ⟨rfl, rfl⟩
end Go.Proofs.YtbefmjodpndndaaDoor
namespace Go.Proofs.YtbefmjodpndndaaDoor
open Go.RowKit Go.IntWalk

def endsB (s : DS) : Bool := !s.down && decide (s.armed = 1)
def endsS (s : DS) : DS := if s.down = true ∨ s.armed = 0 then s else { s with armed := s.armed - 1 }
set_option maxRecDepth 100000 in
theorem ends_any (b base : Nat) (L : DL) (s : DS) (N : Nat) (w : World) (h : Dsk w base b L s N) :
    Calls Tryd.prog 31 #[.pointer (some ⟨b, 0, none⟩)] w fun e w' => e = .returned (.bool (endsB s)) ∧ Dsk w' base b L (endsS s) N ∧ Chg w w' (DFP b L) := by
  obtain ⟨c0, c1, c2, c3, c4, c5, c6⟩ := h.cells
  have hlt := h.d.lt
  have hfz := h.d.frozen 5
  have H := hid h
  clear c0 c1 c2 c3 c6 h
  cases hd : s.down with
  | true =>
    rw [hd] at c4
    have e1 : endsB s = false := by simp [endsB, hd]
    have e2 : endsS s = s := by simp [endsS, hd]
    rw [e1, e2]
    clear e1 e2 hd c5
    go_enter Tryd.func31, Tryd.ntmps31
    go_wp2_with fail
    go_ret
    exact ⟨rfl, H.out, Chg.refl _ _⟩
  | false =>
    rw [hd] at c4
    by_cases h0 : s.armed = 0
    · have e1 : endsB s = false := by simp [endsB, h0]
      have e2 : endsS s = s := by simp [endsS, h0]
      rw [e1, e2]
      rw [h0] at c5
      clear e1 e2 hd h0
      go_enter Tryd.func31, Tryd.ntmps31
      go_wp2_with fail
      go_ret
      exact ⟨rfl, H.out, Chg.refl _ _⟩
    · have e1 : endsB s = decide (s.armed - 1 = 0) := by simp [endsB, hd]; omega
      have e2 : endsS s = { s with armed := s.armed - 1 } := by simp [endsS, hd, h0]
      have ho := H.out.ok.armed
      have HS := hid (H.out.set 5 (.int .i64 (s.armed - 1)) { s with armed := s.armed - 1 } (by simp) rfl ⟨H.out.ok.now, H.out.ok.le, H.out.ok.lost, by simp only; omega⟩)
      rw [e1, e2]
      obtain ⟨ar, har⟩ : ∃ ar, ar = s.armed := ⟨_, rfl⟩
      rw [← har] at c5 HS h0 ho ⊢
      clear e1 e2 hd har
      go_enter Tryd.func31, Tryd.ntmps31
      go_wp2_with fail
      go_ret
      exact ⟨rfl, HS.out.1, HS.out.2⟩
set_option maxRecDepth 100000 in
theorem lose_any (b base : Nat) (L : DL) (s : DS) (N : Nat) (n : Int) (hn : I64 n) (w : World) (h : Dsk w base b L s N) :
    Calls Tryd.prog 24 #[.pointer (some ⟨b, 0, none⟩), .int .i64 n] w fun e w' => e = .returned (.tuple #[]) ∧ Dsk w' base b L { s with lost := max n 0 } N ∧ Chg w w' (DFP b L) := by
  obtain ⟨c0, c1, c2, c3, c4, c5, c6⟩ := h.cells
  have hlt := h.d.lt
  have hfz := h.d.frozen 3
  obtain ⟨m, hm⟩ : ∃ m : Int, max n 0 = m := ⟨_, rfl⟩
  have HS := hid (h.set 3 (.int .i64 m) { s with lost := m } (by simp) rfl ⟨h.ok.now, h.ok.le, by obtain ⟨h1, h2⟩ := hn; simp only; omega, h.ok.armed⟩)
  rw [hm]
  clear c0 c1 c2 c4 c5 c6 h hn
  go_enter Tryd.func24, Tryd.ntmps24
  go_wp2_with fail
  go_end0
  exact ⟨rfl, HS.out.1, HS.out.2⟩
set_option maxRecDepth 100000 in
theorem start_any (b base : Nat) (L : DL) (s : DS) (N : Nat) (w : World) (h : Dsk w base b L s N) :
    Calls Tryd.prog 26 #[.pointer (some ⟨b, 0, none⟩)] w fun e w' => e = .returned (.tuple #[]) ∧ Dsk w' base b L { s with down := false } N ∧ Chg w w' (DFP b L) := by
  obtain ⟨c0, c1, c2, c3, c4, c5, c6⟩ := h.cells
  have hlt := h.d.lt
  have hfz := h.d.frozen 4
  have HS := hid (h.set 4 (.bool false) { s with down := false } (by simp) rfl ⟨h.ok.now, h.ok.le, h.ok.lost, h.ok.armed⟩)
  clear c0 c1 c2 c3 c5 c6 h
  go_enter Tryd.func26, Tryd.ntmps26
  go_wp2_with fail
  go_end0
  exact ⟨rfl, HS.out.1, HS.out.2⟩
theorem fieldF0 (x : Fl) (W : World) : (Instr.field 81 (csF x) 0).run Tryd.prog W = .ok (.string (bs x.1)) W := by kernel_rfl
set_option maxRecDepth 100000 in
theorem read_down (b base : Nat) (L : DL) (s : DS) (N : Nat) (f p n : Int) (w : World) (h : Dsk w base b L s N) (hd : s.down = true) :
    Calls Tryd.prog 36 #[.pointer (some ⟨b, 0, none⟩), .int .i64 f, .int .i64 p, .int .i64 n] w fun e w' => e = .returned (.tuple #[.string (bs []), .int .i64 9]) ∧ w = w' := by
  have HM := hid (may_any b base L s N f w h)
  have e1 : mayE s f = 9 := by simp [mayE, hd]
  rw [e1] at HM
  clear e1 h hd
  go_enter Tryd.func36, Tryd.ntmps36
  go_wp2_with fail
  refine HM.out.mono ?_
  rintro e w' ⟨rfl, rfl⟩
  go_wp2_with fail
  go_ret2
  exact ⟨rfl, rfl⟩
set_option maxRecDepth 100000 in
theorem read_up (b base : Nat) (L : DL) (s : DS) (N : Nat) (f : Int) (p n : Nat) (w : World) (h : Dsk w base b L s N) (hd : s.down = false) (hf : 0 ≤ f ∧ f < 16) (hp : p ≤ 16777216) (hn : n ≤ 9223372036854775807) :
    Calls Tryd.prog 36 #[.pointer (some ⟨b, 0, none⟩), .int .i64 f, .int .i64 (p : Int), .int .i64 (n : Int)] w fun e w' => e = .returned (.tuple #[.string (bs (((s.fl f).1.drop p).take n)), .int .i64 0]) ∧ w = w' := by
  have HM := hid (may_any b base L s N f w h)
  have e1 : mayE s f = 0 := by simp only [mayE, hd, Bool.false_eq_true, if_false]; exact if_neg (by omega)
  rw [e1] at HM
  have hlk := h.f.look (show I64 f from ⟨by omega, by omega⟩)
  obtain ⟨c0, -, -, -, -, -, -⟩ := h.cells
  have hlt := h.d.lt
  have hnl := h.ok.now f
  have hfd := fieldF0 (s.fl f) w
  generalize s.fl f = x at *
  clear e1 h hd hf
  obtain ⟨x1, x2⟩ := x
  simp only at *
  go_enter Tryd.func36, Tryd.ntmps36
  go_wp2_with fail
  refine HM.out.mono ?_
  rintro e w' ⟨rfl, rfl⟩
  have hb1 : decide ((p : Int) < 0) = false := decide_eq_false (by omega)
  have hb2 : decide ((n : Int) < 0) = false := decide_eq_false (by omega)
  go_wp2_with fail
  go_ret2
  have e2 : ((bs x1).extract (min (p : Int) (bs x1).size).toNat (bs x1).size).extract 0 (min (n : Int) ((bs x1).size - (min (p : Int) (bs x1).size).toNat : Nat)).toNat = bs ((x1.drop p).take n) := by
    rw [bs_size, bs_extract, List.take_length, bs_extract, List.drop_zero]
    congr 1
    rw [show (min (p : Int) x1.length).toNat = min p x1.length by omega, show (min (n : Int) ((x1.length - min p x1.length : Nat) : Int)).toNat = min n (x1.length - min p x1.length) by omega]
    have e3 : x1.drop (min p x1.length) = x1.drop p := by
      by_cases h : p ≤ x1.length
      · rw [Nat.min_eq_left h]
      · rw [Nat.min_eq_right (by omega), List.drop_length, List.drop_of_length_le (by omega)]
    rw [e3]
    by_cases h : n ≤ x1.length - min p x1.length
    · rw [Nat.min_eq_left h]
    · rw [Nat.min_eq_right (by omega), List.take_of_length_le (by rw [List.length_drop]; omega), List.take_of_length_le (by rw [List.length_drop]; omega)]
  rw [← e2]
  exact ⟨rfl, rfl⟩
end Go.Proofs.YtbefmjodpndndaaDoor
namespace Go.Proofs.YtbefmjodpndndaaDoor
open Go.RowKit Go.IntWalk

/-- Bytes written into a file. -/
def wrS (s : DS) (f : Int) (p : Nat) (t : Bs) : DS := { s with fl := fun y => if y = f then (putL (s.fl f).1 p t, (s.fl f).2) else s.fl y }
theorem wrS_nil (s : DS) (f : Int) (p : Nat) : wrS s f p [] = s := by
  unfold wrS
  have : (fun y => if y = f then (putL (s.fl f).1 p [], (s.fl f).2) else s.fl y) = s.fl := by
    funext y
    split
    · rename_i h; rw [putL_nil, h]
    · rfl
  rw [this]
theorem wrS_ok {s : DS} (h : s.Ok) (f : Int) (p : Nat) (t : Bs) (hp : p + t.length ≤ 16777216) : (wrS s f p t).Ok := by
  refine ⟨fun y => ?_, fun y => ?_, h.lost, h.armed⟩
  · unfold wrS
    simp only
    split
    · rw [putL_len]
      have := h.now f
      split <;> omega
    · exact h.now y
  · unfold wrS
    simp only
    split
    · exact Nat.le_trans (h.le f) (putL_ge _ _ _)
    · exact h.le y
set_option maxRecDepth 100000 in
theorem write_down (b base : Nat) (L : DL) (s : DS) (N : Nat) (f p : Int) (t : ByteArray) (w : World) (h : Dsk w base b L s N) (hd : s.down = true) :
    Calls Tryd.prog 32 #[.pointer (some ⟨b, 0, none⟩), .int .i64 f, .int .i64 p, .string t] w fun e w' => e = .returned (.int .i64 9) ∧ w = w' := by
  have HM := hid (may_any b base L s N f w h)
  have e1 : mayE s f = 9 := by simp [mayE, hd]
  rw [e1] at HM
  clear e1 h hd
  go_enter Tryd.func32, Tryd.ntmps32
  go_wp2_with fail
  refine HM.out.mono ?_
  rintro e w' ⟨rfl, rfl⟩
  go_wp2_with fail
  go_ret
  exact ⟨rfl, rfl⟩
section
variable {w w' : World} {base b : Nat} {L : DL} {s : DS} {N N' : Nat}
theorem DFP.q_ {qv : Value} {k : Nat} (hG : ∀ g, qv.ownBlock = some g → L.q.ownBlock = some g ∨ w.heap.size ≤ g) (hk : k < w.heap.size) (h : DFP b { L with q := qv } k) : DFP b L k := by
  rcases h with h | h | h | h | h
  · exact .inl h
  · exact .inr (.inl h)
  · exact .inr (.inr (.inl h))
  · rcases hG k h with h | h
    · exact .inr (.inr (.inr (.inl h)))
    · omega
  · exact .inr (.inr (.inr (.inr h)))
/-- The files anew. -/
theorem Dsk.files (h : Dsk w base b L s N) {fl' : Int → Fl} (hf : FOwn w' L.mf fl' N') (hg : w.grownBy w' (some L.mf)) (hN : N ≤ N') (hok : ({ s with fl := fl' } : DS).Ok) : Dsk w' base b L { s with fl := fl' } N' ∧ Chg w w' (DFP b L) := by
  obtain ⟨l, hq, hl, hx⟩ := h.q
  obtain ⟨l2, hk2, hl2, hx2⟩ := h.k
  obtain ⟨es, ck, hm⟩ := h.f.heap
  exact ⟨⟨h.d.grown hg (fun e => cells_ne_map h.d hm (by injection e)), hf, (h.st.at_ (hg.block _ h.st.lt (fun e => h.ne (by injection e with e; exact e.symm)))).mono hN, ⟨l, hq.kept hg (.inr (own_ne_map hq hm)), Nat.le_trans hl hN, hx⟩, ⟨l2, hk2.kept hg (.inr (own_ne_map hk2 hm)), hl2, hx2⟩, h.ne, h.hb, hok⟩, Chg.of_grown hg (fun k e => .inr (.inl (by injection e)))⟩
/-- The set anew. -/
theorem Dsk.sets (h : Dsk w base b L s N) (hf : SOwn w' L.ms N') (hg : w.grownBy w' (some L.ms)) (hN : N ≤ N') : Dsk w' base b L s N' ∧ Chg w w' (DFP b L) := by
  obtain ⟨l, hq, hl, hx⟩ := h.q
  obtain ⟨l2, hk2, hl2, hx2⟩ := h.k
  obtain ⟨es, ck, hm⟩ := h.st.heap
  exact ⟨⟨h.d.grown hg (fun e => cells_ne_map h.d hm (by injection e)), (h.f.at_ (hg.block _ h.f.lt (fun e => h.ne (by injection e)))).mono hN, hf, ⟨l, hq.kept hg (.inr (own_ne_map hq hm)), Nat.le_trans hl hN, hx⟩, ⟨l2, hk2.kept hg (.inr (own_ne_map hk2 hm)), hl2, hx2⟩, h.ne, h.hb, h.ok⟩, Chg.of_grown hg (fun k e => .inr (.inr (.inl (by injection e))))⟩
/-- The queue anew: its row, then the disk's cell. -/
theorem Dsk.queue (h : Dsk w base b L s N) {qv : Value} {l' : List (Int × Int)} (ho : secRK.Own w' base qv l') (hg : w.grownBy w' L.q.ownBlock) (hq' : ∀ g, qv.ownBlock = some g → L.q.ownBlock = some g ∨ w.heap.size ≤ g) (hl' : l'.length ≤ N') (hx' : ∀ x ∈ l', SecOK x) (hN : N ≤ N') :
    Dsk (w'.setCell ⟨b, 1, none⟩ qv) base b { L with q := qv } s N' ∧ Chg w (w'.setCell ⟨b, 1, none⟩ qv) (DFP b L) := by
  obtain ⟨l, hq, hl, hx⟩ := h.q
  obtain ⟨l2, hk2, hl2, hx2⟩ := h.k
  obtain ⟨es, ck, hm⟩ := h.f.heap
  obtain ⟨es2, ck2, hm2⟩ := h.st.heap
  have hdq : L.q.ownBlock ≠ some b := own_blk_ne hq h.d (by decide)
  have hd' := h.d.grown hg (fun e => hdq e.symm)
  have hg2 := gr_set w' b 1 qv
  have hqb : qv.ownBlock ≠ some b := fun e => by
    rcases hq' b e with h1 | h1
    · exact hdq h1
    · have := h.d.lt; omega
  have hkq : ∀ k, L.kv.ownBlock = some k → some k ≠ L.q.ownBlock := fun k hk e => own_ne_own hk2 hq (by decide) hk e.symm
  have hk3 : OwnI w' base L.kv l2 := own_kept hk2 (fun g cs e hB => hB.grown hg (hkq g e))
  have hf1 := h.f.at_ (hg.block _ h.f.lt (fun e => own_ne_map hq hm e.symm))
  have hs1 := h.st.at_ (hg.block _ h.st.lt (fun e => own_ne_map hq hm2 e.symm))
  obtain ⟨es3, ck3, hm3⟩ := hf1.heap
  obtain ⟨es4, ck4, hm4⟩ := hs1.heap
  refine ⟨⟨by simpa using hd'.set_ 1 qv, (hf1.at_ (hg2.block _ hf1.lt (fun e => cells_ne_map hd' hm3 (by injection e with e; exact e.symm)))).mono hN, (hs1.at_ (hg2.block _ hs1.lt (fun e => cells_ne_map hd' hm4 (by injection e with e; exact e.symm)))).mono hN, ⟨l', ho.kept hg2 (.inr hqb), hl', hx'⟩, ⟨l2, hk3.kept hg2 (.inr (own_blk_ne hk3 hd' (by decide))), hl2, hx2⟩, h.ne, h.hb, h.ok⟩, ?_⟩
  exact Chg.trans (Chg.of_grown hg (S := DFP b L) (fun k e => .inr (.inr (.inr (.inl e.symm))))) (Chg.of_grown hg2 (S := fun k => k = b) (fun k e => by injection e)) (fun k _ e => .inl e)
end
theorem bsl_sec (w : World) (v0 v1 : Value) : (Instr.buildSlice 58 1 #[(0, .agg #[v0, v1])]).run Tryd.prog w = .ok (.slice (some ⟨w.heap.size, 0, none⟩) 1 1) (w.alloc (Obj.cells #[v0, v1] 79)) := by kernel_rfl
theorem bslSec {F : Fence} {n0 : Nat} {o : Oper} {a : Act} {w : World} {K : Act → World → Prop} {Q : Exit → Act → World → Prop} (hF : ∀ f, F.fn f) (x : Operand) {v0 v1 : Value}
    (ho : o.op = .buildSlice 58 1 #[(0, x)]) (hx : a.eval x = .agg #[v0, v1])
    (h : K (a.put o.dst (.slice (some ⟨w.heap.size, 0, none⟩) 1 1)) (w.alloc (Obj.cells #[v0, v1] 79))) : Oper.wpIn F n0 Tryd.prog o a w K Q := by
  refine uponIn_of_value (v := .slice (some ⟨w.heap.size, 0, none⟩) 1 1) (w' := w.alloc (Obj.cells #[v0, v1] 79)) hF (by rw [ho]; intro c hc; cases hc) ?_ h
  unfold execOp
  simp only [ho, Sem.run_bind, Sem.run_pure, Result.andThen_ok, List.map_toArray, List.map_cons, List.map_nil, hx, bsl_sec]
set_option maxRecDepth 100000 in
set_option maxHeartbeats 4000000 in
theorem write_up (b base : Nat) (L : DL) (s : DS) (N : Nat) (f : Int) (p : Nat) (t : Bs) (w : World) (h : Dsk w base b L s N) (hd : s.down = false) (hf : 0 ≤ f ∧ f < 16) (hp : p + t.length ≤ 16777216) (hN : N + 2 * t.length + 5 ≤ 50000000) (hbase : base ≤ w.heap.size) :
    Calls Tryd.prog 32 #[.pointer (some ⟨b, 0, none⟩), .int .i64 f, .int .i64 (p : Int), .string (bs t)] w (DRes w base b L (N + 2 * t.length + 5) fun e s' => e = .returned (.int .i64 0) ∧ s' = wrS s f p t) := by
  have HM := hid (may_any b base L s N f w h)
  have e1 : mayE s f = 0 := by simp only [mayE, hd, Bool.false_eq_true, if_false]; exact if_neg (by omega)
  rw [e1] at HM
  clear e1
  have hb1 : decide ((p : Int) < 0) = false := decide_eq_false (by omega)
  have hb2 : decide ((16777216 : Int) < p) = false := decide_eq_false (by omega)
  have hb3 : decide ((16777216 : Int) - p < t.length) = false := decide_eq_false (by omega)
  have hsz := bs_size t
  by_cases h0 : t = []
  · have H := hid h
    have e2 := wrS_nil s f p
    have hemp : (bs t).toList.isEmpty = true := by rw [bs_tl, h0]; rfl
    rw [← h0] at e2
    rw [e2]
    clear e2 h h0
    go_enter Tryd.func32, Tryd.ntmps32
    go_wp2_with fail
    refine HM.out.mono ?_
    rintro e w' ⟨rfl, rfl⟩
    go_wp2_with fail
    go_ret
    exact ⟨L, s, ⟨rfl, rfl⟩, H.out.mono (by omega), Chg.refl _ _, fun _ h => .inl h⟩
  have hemp : (bs t).toList.isEmpty = false := by rw [bs_tl, List.isEmpty_eq_false_iff]; exact h0
  have hlk := h.f.look (show I64 f from ⟨by omega, by omega⟩)
  obtain ⟨c0, -, -, -, -, -, -⟩ := h.cells
  have hlt := h.d.lt
  have H := hid h
  have HH0 := hid h0
  have HP := hid (put_any (s.fl f).1 t p)
  have hnl := hid (h.ok.now f)
  have hok := hid (wrS_ok h.ok f p t hp)
  have HD := hid hd
  clear h0 h hd
  obtain ⟨x, hx⟩ : ∃ x, x = s.fl f := ⟨_, rfl⟩
  rw [← hx] at HP hnl hlk
  have HX := hid hx
  clear hx
  obtain ⟨x1, x2⟩ := x
  unfold csF at hlk
  simp only at hlk HP hnl
  go_enter Tryd.func32, Tryd.ntmps32
  go_wp2_with fail
  refine HM.out.mono ?_
  rintro e w' ⟨rfl, rfl⟩
  go_upto_region 11 with fail
  obtain ⟨w1, hw1⟩ : ∃ w1, w1 = w.alloc (Obj.cells #[Value.string (bs x1), Value.string (bs x2)] 81) := ⟨_, rfl⟩
  have B1 := hid (show Below w.heap.size w w1 by rw [hw1]; (repeat (first | exact Below.refl _ _ | assumption | refine below_drewN ?_ _ | refine Below.drew ?_ | refine Below.alloc ?_ (by (try simp); (try omega)) _ | refine Below.setCell ?_ (by (try simp); (try omega)) _)))
  have X1 := hid (show Blk w1 w.heap.size 81 #[.string (bs x1), .string (bs x2)] by rw [hw1]; exact Blk.new w _ _)
  rw [← hw1]
  clear hw1 hlk c0
  have x0 := X1.out.cell 0; have xz := X1.out.lt; have xf := X1.out.frozen 0
  simp at x0
  go_wp2_with fail
  refine (HP.out w1 hnl.out (by omega) (by omega)).mono ?_
  rintro e w2 ⟨rfl, hB⟩
  have B2 := hid (B1.out.trans (hB.mono B1.out.size))
  have X2 := hid (X1.out.below hB xz)
  clear hB x0 xz xf B1 X1 HP
  have x0 := X2.out.cell 0; have xz := X2.out.lt; have xf := X2.out.frozen 0
  simp at x0
  go_upto_region 12 with fail
  obtain ⟨y, hy⟩ : ∃ y, y = putL x1 p t := ⟨_, rfl⟩
  rw [← hy]
  have HY := hid hy
  clear hy
  obtain ⟨gx, hgx⟩ : ∃ gx, gx = w.heap.size := ⟨_, rfl⟩
  have HGX := hid hgx
  rw [← hgx] at X2 x0 xz xf ⊢
  have B3 := hid (show Below w.heap.size w (w2.setCell ⟨gx, 0, none⟩ (.string (bs y))) from B2.out.setCell (by simp [hgx]) _)
  have X3 := hid (show Blk (w2.setCell ⟨gx, 0, none⟩ (.string (bs y))) gx 81 #[.string (bs y), .string (bs x2)] by simpa using X2.out.set_ 0 (.string (bs y)))
  clear hgx x0 xz xf X2 B2
  generalize (w2.setCell ⟨gx, 0, none⟩ (.string (bs y))) = w3 at *
  have H3 := hid (H.out.below B3.out)
  have H3d := hid (H.out.below B3.out.drew)
  have HSF := hid (fun (wq : World) (hq : wq = w3.drew) => show wq.cell? ⟨b, 0, none⟩ = some (.map (some L.mf)) ∧ wq.cell? ⟨gx, 0, none⟩ = some (.string (bs y)) ∧ wq.cell? ⟨gx, 1, none⟩ = some (.string (bs x2)) from by rw [hq]; exact ⟨H3d.out.cells.1, X3.out.cell 0, X3.out.cell 1⟩)
  refine wpIn_wide.1 (wpIn_region_S (n := 0) (fun wq => wq = w3.drew) [6] (by kernel_rfl) rfl (fun hHeld => ?_))
  obtain ⟨w4, r1, r2, r3⟩ := H3d.out.f.put (show I64 f from ⟨by omega, by omega⟩) (by unfold maxLen; omega) (y, x2)
  unfold csF at r1
  simp only at r1
  have R2 := hid r2
  have R3 := hid r3
  clear r2 r3
  have BD := hid B3.out.drew
  generalize w3.drew = wd at *
  refine wpAnyS_pure 0 (v := ?_) (fun _ => trivial) (by simp only [List.getElem?_toArray, List.getElem?_cons_succ, List.getElem?_cons_zero]; rfl) (by kernel_rfl) (fun _ _ _ _ _ h => h) ⟨rfl, (by intro c h; cases h), ?_⟩ hHeld ?_
  rotate_left
  focus (intro wS hSw; (try replace hSw := HSF.out wS hSw); (try dsimp only at hSw); go_simp; (try with_reducible rfl))
  (try simp only [Act.put, List.setIfInBounds_toArray, List.set_cons_zero, List.set_cons_succ])
  refine wpAnyS_pure 1 (v := ?_) (fun _ => trivial) (by simp only [List.getElem?_toArray, List.getElem?_cons_succ, List.getElem?_cons_zero]; rfl) (by kernel_rfl) (fun _ _ _ _ _ h => h) ⟨rfl, (by intro c h; cases h), ?_⟩ hHeld ?_
  rotate_left
  focus (intro wS hSw; (try replace hSw := HSF.out wS hSw); (try dsimp only at hSw); go_simp; (try with_reducible rfl))
  (try simp only [Act.put, List.setIfInBounds_toArray, List.set_cons_zero, List.set_cons_succ])
  refine wpAnyS_pure 2 (v := ?_) (fun _ => trivial) (by simp only [List.getElem?_toArray, List.getElem?_cons_succ, List.getElem?_cons_zero]; rfl) (by kernel_rfl) (fun _ _ _ _ _ h => h) ⟨rfl, (by intro c h; cases h), ?_⟩ hHeld ?_
  rotate_left
  focus (intro wS hSw; (try replace hSw := HSF.out wS hSw); (try dsimp only at hSw); go_simp; (try with_reducible rfl))
  (try simp only [Act.put, List.setIfInBounds_toArray, List.set_cons_zero, List.set_cons_succ])
  refine wpAnyS_take 3 (v := ?_) (fun _ => trivial) (by simp only [List.getElem?_toArray, List.getElem?_cons_succ, List.getElem?_cons_zero]; rfl) (by kernel_rfl) (fun _ _ _ _ _ h => h) ⟨rfl, (by intro c h; cases h), ?_⟩ hHeld ?_
  rotate_left
  focus (intro wS hSw; (try replace hSw := HSF.out wS hSw); (try dsimp only at hSw); go_simp; (try with_reducible rfl))
  (try simp only [Act.put, List.setIfInBounds_toArray, List.set_cons_zero, List.set_cons_succ])
  refine wpAnyS_pure 4 (v := ?_) (fun _ => trivial) (by simp only [List.getElem?_toArray, List.getElem?_cons_succ, List.getElem?_cons_zero]; rfl) (by kernel_rfl) (fun _ _ _ _ _ h => h) ⟨rfl, (by intro c h; cases h), ?_⟩ hHeld ?_
  rotate_left
  focus (intro wS hSw; (try replace hSw := HSF.out wS hSw); (try dsimp only at hSw); go_simp; (try with_reducible rfl))
  (try simp only [Act.put, List.setIfInBounds_toArray, List.set_cons_zero, List.set_cons_succ])
  refine wpAnyS_take 5 (v := ?_) (fun _ => trivial) (by simp only [List.getElem?_toArray, List.getElem?_cons_succ, List.getElem?_cons_zero]; rfl) (by kernel_rfl) (fun _ _ _ _ _ h => h) ⟨rfl, (by intro c h; cases h), ?_⟩ hHeld ?_
  rotate_left
  focus (intro wS hSw; (try replace hSw := HSF.out wS hSw); (try dsimp only at hSw); go_simp; (try with_reducible rfl))
  (try simp only [Act.put, List.setIfInBounds_toArray, List.set_cons_zero, List.set_cons_succ])
  refine wpAnyS_ready [6] (by kernel_rfl) (by simp) (AllReadyS.consL (by simp only [List.getElem?_toArray, List.getElem?_cons_succ, List.getElem?_cons_zero]; rfl) rfl (by kernel_rfl) (fun K hK => ?_) AllReadyS.nil)
  go_simp
  refine hK.out _ _ ?_
  (try simp only [Act.put, List.setIfInBounds_toArray, List.set_cons_zero, List.set_cons_succ])
  refine wpAnyS_done (by kernel_rfl) ?_
  have HD4 := hid (H3d.out.files R2.out R3.out (by omega) (by have := hok.out; unfold wrS at this; rw [← HX.out] at this; simp only at this; rw [← HY.out] at this; exact this))
  obtain ⟨s4, hs4⟩ : ∃ s4, s4 = ({ s with fl := (fun y_1 => if y_1 = f then (y, x2) else s.fl y_1) } : DS) := ⟨_, rfl⟩
  rw [← hs4] at HD4
  have HS4 := hid (show s4 = wrS s f p t by rw [hs4, HY.out]; unfold wrS; rw [← HX.out])
  have B4 := hid (Chg.trans (Chg.of_below BD.out (DFP b L)) HD4.out.2 (fun k _ h => h))
  have D4 := hid HD4.out.1
  clear hK HSF hHeld r1 HD4 R2 R3 BD B3 H3 H3d HX HY hs4 HGX X3 hok
  clear K
  clear wd w3 HM
  obtain ⟨e9, he9⟩ : ∃ e9, e9 = (p + t.length - 1) / 64 := ⟨_, rfl⟩
  have hq1 : p / 64 ≤ e9 := by have := List.length_pos_iff.2 HH0.out; omega
  have hq2 : e9 ≤ p / 64 + t.length / 64 + 1 := by omega
  have hq3 : e9 ≤ 262144 := by omega
  have hE : ((p : Int) + t.length - 1) / 64 = (e9 : Int) := by have := List.length_pos_iff.2 HH0.out; omega
  have hP : (p : Int) / 64 = ((p / 64 : Nat) : Int) := by omega
  obtain ⟨e1, he1⟩ : ∃ e1, e1 = p / 64 := ⟨_, rfl⟩
  rw [← he1] at hP hq1 hq2
  have HE9 := hid (And.intro he9 he1)
  clear he9 he1 hnl
  have HNE := hid (D4.out.ne)
  go_wp2_with fail
  go_loopw [11] (fun i wr => ∃ (k : Nat) (qv : Value), e1 + k ≤ e9 + 1 ∧ i = .int .i64 ((e1 + k : Nat) : Int) ∧ Dsk wr base b { L with q := qv } s4 (N + 1 + 2 * k) ∧ Chg w wr (DFP b L) ∧ ∀ g, qv.ownBlock = some g → L.q.ownBlock = some g ∨ w.heap.size ≤ g) (fun i _ => e9 + 1 - (intOf i).toNat)
  case atStart => exact ⟨0, L.q, by omega, by rw [Nat.add_zero], D4.out, B4.out, fun g h => .inl h⟩
  case round =>
    clear D4 B4 hP
    obtain ⟨k, qv, hk, rfl, hD, hC, hG⟩ := hrel
    have HDr := hid hD
    have HCr := hid hC
    have HGr := hid hG
    clear hD hC hG
    obtain ⟨n, hn⟩ : ∃ n, n = e1 + k := ⟨_, rfl⟩
    rw [← hn] at hk ⊢
    have HN := hid hn
    clear hn
    by_cases hle : n ≤ e9
    case neg =>
      have hcond : decide ((n : Int) ≤ (e9 : Int)) = false := decide_eq_false (by omega)
      go_wp2_with fail
      go_ret
      refine ⟨{ L with q := qv }, s4, ⟨rfl, HS4.out⟩, HDr.out.mono (by have := HN.out; omega), HCr.out, fun g hg => ?_⟩
      rcases hg with h | h | h | h | h
      · exact .inl (.inl h)
      · exact .inl (.inr (.inl h))
      · exact .inl (.inr (.inr (.inl h)))
      · exact (HGr.out g h).imp (fun h => .inr (.inr (.inr (.inl h)))) id
      · exact .inl (.inr (.inr (.inr (.inr h))))
    case pos =>
    have hcond : decide ((n : Int) ≤ (e9 : Int)) = true := decide_eq_true (by omega)
    go_upto_region 17 with fail
    obtain ⟨w5, hw5⟩ : ∃ w5, w5 = wr.alloc (Obj.cells #[Value.int .i64 f, Value.int .i64 (n : Int)] 79) := ⟨_, rfl⟩
    have B5 := hid (show Below wr.heap.size wr w5 by rw [hw5]; (repeat (first | exact Below.refl _ _ | assumption | refine below_drewN ?_ _ | refine Below.drew ?_ | refine Below.alloc ?_ (by (try simp); (try omega)) _ | refine Below.setCell ?_ (by (try simp); (try omega)) _)))
    have X5 := hid (show Blk w5 wr.heap.size 79 #[.int .i64 f, .int .i64 (n : Int)] by rw [hw5]; exact Blk.new wr _ _)
    rw [← hw5]
    clear hw5
    have H5 := hid (HDr.out.below B5.out)
    have HCF := hid (Chg.trans HCr.out (Chg.of_below B5.out (DFP b L)) (fun k _ h => h))
    have hws := hid HCr.out.size
    have HQG := hid (show qv.ownBlock ≠ some wr.heap.size from fun e => by obtain ⟨l, hq, _⟩ := HDr.out.q; have := (World.ownsRow.lt hq _ e).2; omega)
    clear HDr HCr B5
    generalize wr.heap.size = gs at *
    have H5d := hid (H5.out.below (Below.refl _ w5).drew)
    have hsec := hid (show SecOK (f, (n : Int)) from ⟨hf.1, hf.2, Int.natCast_nonneg n, show (n : Int) ≤ 1000000 by omega⟩)
    have hi1 : I64 f := ⟨by omega, by omega⟩
    have hi2 : I64 (n : Int) := ⟨by omega, by omega⟩
    obtain ⟨r, hr⟩ := H5d.out.st.look (f, (n : Int)) hi1 hi2
    unfold csS at hr
    simp only at hr
    have HSF := hid (fun (wq : World) (hq : wq = w5.drew) => show wq.cell? ⟨b, 2, none⟩ = some (.map (some L.ms)) ∧ wq.cell? ⟨gs, 0, none⟩ = some (.int .i64 f) ∧ wq.cell? ⟨gs, 1, none⟩ = some (.int .i64 (n : Int)) ∧ (Instr.lookup 57 (.map (some L.ms)) (.agg #[.int .i64 f, .int .i64 (n : Int)]) false).run Tryd.prog wq = .ok (.bool r) wq from by rw [hq]; exact ⟨H5d.out.cells.2.2.1, X5.out.cell 0, X5.out.cell 1, hr⟩)
    refine wpIn_wide.1 (wpIn_region_S (n := 0) (fun wq => wq = w5.drew) [] (by kernel_rfl) rfl (fun hHeld => ?_))
    have X5d := hid (X5.out.drew)
    have HCd := hid (Chg.trans HCF.out (Chg.of_below (Below.refl _ w5).drew (DFP b L)) (fun k _ h => h))
    clear hr HCF
    generalize w5.drew = wd at *
    refine wpAnyS_pure 0 (v := ?_) (fun _ => trivial) (by simp only [List.getElem?_toArray, List.getElem?_cons_succ, List.getElem?_cons_zero]; rfl) (by kernel_rfl) (fun _ _ _ _ _ h => h) ⟨rfl, (by intro c h; cases h), ?_⟩ hHeld ?_
    rotate_left
    focus (intro wS hSw; (try replace hSw := HSF.out wS hSw); (try dsimp only at hSw); go_simp; (try with_reducible rfl))
    (try simp only [Act.put, List.setIfInBounds_toArray, List.set_cons_zero, List.set_cons_succ])
    refine wpAnyS_pure 1 (v := ?_) (fun _ => trivial) (by simp only [List.getElem?_toArray, List.getElem?_cons_succ, List.getElem?_cons_zero]; rfl) (by kernel_rfl) (fun _ _ _ _ _ h => h) ⟨rfl, (by intro c h; cases h), ?_⟩ hHeld ?_
    rotate_left
    focus (intro wS hSw; (try replace hSw := HSF.out wS hSw); (try dsimp only at hSw); go_simp; (try with_reducible rfl))
    (try simp only [Act.put, List.setIfInBounds_toArray, List.set_cons_zero, List.set_cons_succ])
    refine wpAnyS_pure 2 (v := ?_) (fun _ => trivial) (by simp only [List.getElem?_toArray, List.getElem?_cons_succ, List.getElem?_cons_zero]; rfl) (by kernel_rfl) (fun _ _ _ _ _ h => h) ⟨rfl, (by intro c h; cases h), ?_⟩ hHeld ?_
    rotate_left
    focus (intro wS hSw; (try replace hSw := HSF.out wS hSw); (try dsimp only at hSw); go_simp; (try with_reducible rfl))
    (try simp only [Act.put, List.setIfInBounds_toArray, List.set_cons_zero, List.set_cons_succ])
    refine wpAnyS_take 3 (v := ?_) (fun _ => trivial) (by simp only [List.getElem?_toArray, List.getElem?_cons_succ, List.getElem?_cons_zero]; rfl) (by kernel_rfl) (fun _ _ _ _ _ h => h) ⟨rfl, (by intro c h; cases h), ?_⟩ hHeld ?_
    rotate_left
    focus (intro wS hSw; (try replace hSw := HSF.out wS hSw); (try dsimp only at hSw); go_simp; (try with_reducible rfl))
    (try simp only [Act.put, List.setIfInBounds_toArray, List.set_cons_zero, List.set_cons_succ])
    refine wpAnyS_take 4 (v := ?_) (fun _ => trivial) (by simp only [List.getElem?_toArray, List.getElem?_cons_succ, List.getElem?_cons_zero]; rfl) (by kernel_rfl) (fun _ _ _ _ _ h => h) ⟨rfl, (by intro c h; cases h), ?_⟩ hHeld ?_
    rotate_left
    focus (intro wS hSw; (try replace hSw := HSF.out wS hSw); (try dsimp only at hSw); go_simp; (try with_reducible rfl))
    (try simp only [Act.put, List.setIfInBounds_toArray, List.set_cons_zero, List.set_cons_succ])
    refine wpAnyS_take 5 (v := ?_) (fun _ => trivial) (by simp only [List.getElem?_toArray, List.getElem?_cons_succ, List.getElem?_cons_zero]; rfl) (by kernel_rfl) (fun _ _ _ _ _ h => h) ⟨rfl, (by intro c h; cases h), ?_⟩ hHeld ?_
    rotate_left
    focus (intro wS hSw; (try replace hSw := HSF.out wS hSw); (try dsimp only at hSw); go_simp; (try with_reducible rfl))
    (try simp only [Act.put, List.setIfInBounds_toArray, List.set_cons_zero, List.set_cons_succ])
    refine wpAnyS_pure 6 (v := ?_) (fun _ => trivial) (by simp only [List.getElem?_toArray, List.getElem?_cons_succ, List.getElem?_cons_zero]; rfl) (by kernel_rfl) (fun _ _ _ _ _ h => h) ⟨rfl, (by intro c h; cases h), ?_⟩ hHeld ?_
    rotate_left
    focus (intro wS hSw; (try replace hSw := HSF.out wS hSw); (try dsimp only at hSw); go_simp; (try with_reducible rfl))
    (try simp only [Act.put, List.setIfInBounds_toArray, List.set_cons_zero, List.set_cons_succ])
    refine wpAnyS_done (by kernel_rfl) ?_
    clear HSF hHeld
    cases r with
    | true =>
      go_wp2_with fail
      go_roundw
      case rel => exact ⟨k + 1, qv, by have := HN.out; omega, by have := HN.out; subst this; go_num, H5d.out.mono (by omega), HCd.out, HGr.out⟩
      case measure => simp [intOf]; omega
    | false =>
      go_upto_region 18 with fail
      obtain ⟨l, hq, hl, hx⟩ := H5d.out.q
      have HDp := hid (H5d.out.below (Below.refl _ wd).drew)
      have HCp := hid (Chg.trans HCd.out (Chg.of_below (Below.refl _ wd).drew (DFP b L)) (fun k _ h => h))
      have XP := hid X5d.out.drew
      have hql := hid (show secRK.Own wd.drew base qv l from hq)
      have S0 := hid (show wd.drew.cell? ⟨b, 2, none⟩ = some (.map (some L.ms)) ∧ wd.drew.cell? ⟨gs, 0, none⟩ = some (.int .i64 f) ∧ wd.drew.cell? ⟨gs, 1, none⟩ = some (.int .i64 (n : Int)) from ⟨HDp.out.cells.2.2.1, XP.out.cell 0, XP.out.cell 1⟩)
      have HSF := hid (fun (wq : World) (hq : wq.cell? ⟨b, 2, none⟩ = some (.map (some L.ms)) ∧ wq.cell? ⟨gs, 0, none⟩ = some (.int .i64 f) ∧ wq.cell? ⟨gs, 1, none⟩ = some (.int .i64 (n : Int))) => hq)
      have hqc := hid HDp.out.cells.2.1
      have HL := hid (And.intro hl hx)
      have hlen := hid (show l.length + 1 ≤ 100000000 by have := hl; have := HN.out; omega)
      clear hq H5d HCd X5d hl hx
      refine wpIn_wide.1 (wpIn_region_S (n := 0) (fun wq => wq.cell? ⟨b, 2, none⟩ = some (.map (some L.ms)) ∧ wq.cell? ⟨gs, 0, none⟩ = some (.int .i64 f) ∧ wq.cell? ⟨gs, 1, none⟩ = some (.int .i64 (n : Int))) [16, 18] (by kernel_rfl) S0.out (fun hHeld => ?_))
      generalize wd.drew = wp at *
      refine wpAnyS_pure 0 (v := ?_) (fun _ => trivial) (by simp only [List.getElem?_toArray, List.getElem?_cons_succ, List.getElem?_cons_zero]; rfl) (by kernel_rfl) (fun _ _ _ _ _ h => h) ⟨rfl, (by intro c h; cases h), ?_⟩ hHeld ?_
      rotate_left
      focus (intro wS hSw; (try replace hSw := HSF.out wS hSw); (try dsimp only at hSw); go_simp; (try with_reducible rfl))
      (try simp only [Act.put, List.setIfInBounds_toArray, List.set_cons_zero, List.set_cons_succ])
      refine wpAnyS_pure 1 (v := ?_) (fun _ => trivial) (by simp only [List.getElem?_toArray, List.getElem?_cons_succ, List.getElem?_cons_zero]; rfl) (by kernel_rfl) (fun _ _ _ _ _ h => h) ⟨rfl, (by intro c h; cases h), ?_⟩ hHeld ?_
      rotate_left
      focus (intro wS hSw; (try replace hSw := HSF.out wS hSw); (try dsimp only at hSw); go_simp; (try with_reducible rfl))
      (try simp only [Act.put, List.setIfInBounds_toArray, List.set_cons_zero, List.set_cons_succ])
      refine wpAnyS_pure 2 (v := ?_) (fun _ => trivial) (by simp only [List.getElem?_toArray, List.getElem?_cons_succ, List.getElem?_cons_zero]; rfl) (by kernel_rfl) (fun _ _ _ _ _ h => h) ⟨rfl, (by intro c h; cases h), ?_⟩ hHeld ?_
      rotate_left
      focus (intro wS hSw; (try replace hSw := HSF.out wS hSw); (try dsimp only at hSw); go_simp; (try with_reducible rfl))
      (try simp only [Act.put, List.setIfInBounds_toArray, List.set_cons_zero, List.set_cons_succ])
      refine wpAnyS_pure 3 (v := ?_) (fun _ => trivial) (by simp only [List.getElem?_toArray, List.getElem?_cons_succ, List.getElem?_cons_zero]; rfl) (by kernel_rfl) (fun _ _ _ _ _ h => h) ⟨rfl, (by intro c h; cases h), ?_⟩ hHeld ?_
      rotate_left
      focus (intro wS hSw; (try replace hSw := HSF.out wS hSw); (try dsimp only at hSw); go_simp; (try with_reducible rfl))
      (try simp only [Act.put, List.setIfInBounds_toArray, List.set_cons_zero, List.set_cons_succ])
      refine wpAnyS_take 4 (v := ?_) (fun _ => trivial) (by simp only [List.getElem?_toArray, List.getElem?_cons_succ, List.getElem?_cons_zero]; rfl) (by kernel_rfl) (fun _ _ _ _ _ h => h) ⟨rfl, (by intro c h; cases h), ?_⟩ hHeld ?_
      rotate_left
      focus (intro wS hSw; (try replace hSw := HSF.out wS hSw); (try dsimp only at hSw); go_simp; (try with_reducible rfl))
      (try simp only [Act.put, List.setIfInBounds_toArray, List.set_cons_zero, List.set_cons_succ])
      refine wpAnyS_take 5 (v := ?_) (fun _ => trivial) (by simp only [List.getElem?_toArray, List.getElem?_cons_succ, List.getElem?_cons_zero]; rfl) (by kernel_rfl) (fun _ _ _ _ _ h => h) ⟨rfl, (by intro c h; cases h), ?_⟩ hHeld ?_
      rotate_left
      focus (intro wS hSw; (try replace hSw := HSF.out wS hSw); (try dsimp only at hSw); go_simp; (try with_reducible rfl))
      (try simp only [Act.put, List.setIfInBounds_toArray, List.set_cons_zero, List.set_cons_succ])
      refine wpAnyS_pure 6 (v := ?_) (fun _ => trivial) (by simp only [List.getElem?_toArray, List.getElem?_cons_succ, List.getElem?_cons_zero]; rfl) (by kernel_rfl) (fun _ _ _ _ _ h => h) ⟨rfl, (by intro c h; cases h), ?_⟩ hHeld ?_
      rotate_left
      focus (intro wS hSw; (try replace hSw := HSF.out wS hSw); (try dsimp only at hSw); go_simp; (try with_reducible rfl))
      (try simp only [Act.put, List.setIfInBounds_toArray, List.set_cons_zero, List.set_cons_succ])
      refine wpAnyS_pure 7 (v := ?_) (fun _ => trivial) (by simp only [List.getElem?_toArray, List.getElem?_cons_succ, List.getElem?_cons_zero]; rfl) (by kernel_rfl) (fun _ _ _ _ _ h => h) ⟨rfl, (by intro c h; cases h), ?_⟩ hHeld ?_
      rotate_left
      focus (intro wS hSw; (try replace hSw := HSF.out wS hSw); (try dsimp only at hSw); go_simp; (try with_reducible rfl))
      (try simp only [Act.put, List.setIfInBounds_toArray, List.set_cons_zero, List.set_cons_succ])
      refine wpAnyS_pure 8 (v := ?_) (fun _ => trivial) (by simp only [List.getElem?_toArray, List.getElem?_cons_succ, List.getElem?_cons_zero]; rfl) (by kernel_rfl) (fun _ _ _ _ _ h => h) ⟨rfl, (by intro c h; cases h), ?_⟩ hHeld ?_
      rotate_left
      focus (intro wS hSw; (try replace hSw := HSF.out wS hSw); (try dsimp only at hSw); go_simp; (try with_reducible rfl))
      (try simp only [Act.put, List.setIfInBounds_toArray, List.set_cons_zero, List.set_cons_succ])
      refine wpAnyS_take 10 (v := ?_) (fun _ => trivial) (by simp only [List.getElem?_toArray, List.getElem?_cons_succ, List.getElem?_cons_zero]; rfl) (by kernel_rfl) (fun _ _ _ _ _ h => h) ⟨rfl, (by intro c h; cases h), ?_⟩ hHeld ?_
      rotate_left
      focus (intro wS hSw; (try replace hSw := HSF.out wS hSw); (try dsimp only at hSw); go_simp; (try with_reducible rfl))
      (try simp only [Act.put, List.setIfInBounds_toArray, List.set_cons_zero, List.set_cons_succ])
      refine wpAnyS_ready [9, 11] (by kernel_rfl) (by simp) (AllReadyS.cons (by simp only [List.getElem?_toArray, List.getElem?_cons_succ, List.getElem?_cons_zero]; rfl) rfl (fun K hK => ?_) (AllReadyS.cons (by simp only [List.getElem?_toArray, List.getElem?_cons_succ, List.getElem?_cons_zero]; rfl) rfl (fun K hK => ?_) AllReadyS.nil))
      · --9
        have hc1 := hqc.out
        simp only at hc1
        go_simp
        refine hK.out _ _ S0.out ?_
        clear hc1 hK K
        (try simp only [Act.put, List.setIfInBounds_toArray, List.set_cons_zero, List.set_cons_succ])
        refine wpAnyS_ready [11] (by kernel_rfl) (by simp) (AllReadyS.cons (by simp only [List.getElem?_toArray, List.getElem?_cons_succ, List.getElem?_cons_zero]; rfl) rfl (fun K hK => ?_) AllReadyS.nil)
        refine bslSec (fun _ => trivial) (.tmp 85) rfl rfl ?_
        obtain ⟨wa, hwa⟩ : ∃ wa, wa = wp.alloc (Obj.cells #[Value.int .i64 f, Value.int .i64 (n : Int)] 79) := ⟨_, rfl⟩
        have Ba := hid (show Below wp.heap.size wp wa by rw [hwa]; (repeat (first | exact Below.refl _ _ | assumption | refine below_drewN ?_ _ | refine Below.drew ?_ | refine Below.alloc ?_ (by (try simp); (try omega)) _ | refine Below.setCell ?_ (by (try simp); (try omega)) _)))
        have SA := hid (show SlR wa wa.heap.size (some ⟨wp.heap.size, 0, none⟩) ([(f, (n : Int))] : List (Int × Int)) from secRK.blk (l := [(f, (n : Int))]) (by rw [hwa]; exact Blk.new wp _ _) (by intro x hx; simp at hx; subst hx; exact ⟨hi1, hi2⟩))
        rw [← hwa]
        clear hwa
        have hqa := hid (hql.out.below Ba.out)
        have HDa := hid (HDp.out.below Ba.out)
        have XPa := hid (XP.out.below Ba.out XP.out.lt)
        have HCa := hid (Chg.trans HCp.out (Chg.of_below Ba.out (DFP b L)) (fun k _ h => h))
        have hba := hid (show base ≤ wa.heap.size by have := HCa.out.size; omega)
        have Sa := hid (show wa.cell? ⟨b, 2, none⟩ = some (.map (some L.ms)) ∧ wa.cell? ⟨gs, 0, none⟩ = some (.int .i64 f) ∧ wa.cell? ⟨gs, 1, none⟩ = some (.int .i64 (n : Int)) from ⟨HDa.out.cells.2.2.1, XPa.out.cell 0, XPa.out.cell 1⟩)
        refine hK.out _ _ Sa.out ?_
        (try simp only [Act.put, List.setIfInBounds_toArray, List.set_cons_zero, List.set_cons_succ])
        clear hK K hHeld
        have hHeld := Sa.out
        generalize wp.heap.size = gp at *
        refine wpAnyS_ready [12] (by kernel_rfl) (by simp) (AllReadyS.cons (by simp only [List.getElem?_toArray, List.getElem?_cons_succ, List.getElem?_cons_zero]; rfl) rfl (fun K hK => ?_) AllReadyS.nil)
        refine secRK.appS2 (fun _ => trivial) (.tmp 84) (.tmp 86) rfl rfl hqa.out (ys := [(f, (n : Int))]) (c := 1) rfl SA.out (by simp) hlen.out hba.out ?_
        intro qn w6 hO6 hg6 hl6
        have hO := hid hO6
        have HL6 := hid hl6
        obtain ⟨An, mn, cn, rfl⟩ : ∃ A m c, qn = .slice A m c := by obtain ⟨A, c, e⟩ := own_form hO6; exact ⟨A, _, c, e⟩
        obtain ⟨qn, hqn⟩ : ∃ qn, qn = Value.slice An mn cn := ⟨_, rfl⟩
        rw [← hqn] at hO HL6
        have HQN := hid hqn
        clear hqn
        have hG6 := hid (show wa.grownBy w6 qv.ownBlock from hg6)
        clear hO6 hg6 hl6
        have X6 := hid (XPa.out.grown hG6.out (fun e => HQG.out e.symm))
        have D6 := hid (HDa.out.d.grown hG6.out (fun e => own_blk_ne hqa.out HDa.out.d (by decide) e.symm))
        have S6 := hid (show w6.cell? ⟨b, 2, none⟩ = some (.map (some L.ms)) ∧ w6.cell? ⟨gs, 0, none⟩ = some (.int .i64 f) ∧ w6.cell? ⟨gs, 1, none⟩ = some (.int .i64 (n : Int)) from ⟨D6.out.cell 2, X6.out.cell 0, X6.out.cell 1⟩)
        refine hK.out _ _ S6.out ?_
        (try simp only [Act.put, List.setIfInBounds_toArray, List.set_cons_zero, List.set_cons_succ])
        clear hK K hHeld
        have hHeld := S6.out
        refine wpAnyS_pure 13 (v := ?_) (fun _ => trivial) (by simp only [List.getElem?_toArray, List.getElem?_cons_succ, List.getElem?_cons_zero]; rfl) (by kernel_rfl) (fun _ _ _ _ _ h => h) ⟨rfl, (by intro c h; cases h), ?_⟩ hHeld ?_
        rotate_left
        focus (intro wS hSw; (try replace hSw := HSF.out wS hSw); (try dsimp only at hSw); go_simp; (try with_reducible rfl))
        (try simp only [Act.put, List.setIfInBounds_toArray, List.set_cons_zero, List.set_cons_succ])
        refine wpAnyS_pure 14 (v := ?_) (fun _ => trivial) (by simp only [List.getElem?_toArray, List.getElem?_cons_succ, List.getElem?_cons_zero]; rfl) (by kernel_rfl) (fun _ _ _ _ _ h => h) ⟨rfl, (by intro c h; cases h), ?_⟩ hHeld ?_
        rotate_left
        focus (intro wS hSw; (try replace hSw := HSF.out wS hSw); (try dsimp only at hSw); go_simp; (try with_reducible rfl))
        (try simp only [Act.put, List.setIfInBounds_toArray, List.set_cons_zero, List.set_cons_succ])
        have HQ := hid (HDa.out.queue (N' := N + 1 + 2 * k + 1) hO.out hG6.out HL6.out (by rw [List.length_append]; have := HL.out.1; simp only [List.length_singleton]; omega) (by intro x hx; rcases List.mem_append.1 hx with h | h; exact HL.out.2 x h; simp at h; subst h; exact hsec.out) (by omega))
        have HGn := hid (fun (g : Nat) (hg : qn.ownBlock = some g) => (HL6.out g hg).elim (fun h => HGr.out g h) (fun h => Or.inr (Nat.le_trans HCa.out.size h)))
        have S7 := hid (show (w6.setCell ⟨b, 1, none⟩ qn).cell? ⟨b, 2, none⟩ = some (.map (some L.ms)) ∧ (w6.setCell ⟨b, 1, none⟩ qn).cell? ⟨gs, 0, none⟩ = some (.int .i64 f) ∧ (w6.setCell ⟨b, 1, none⟩ qn).cell? ⟨gs, 1, none⟩ = some (.int .i64 (n : Int)) from ⟨HQ.out.1.cells.2.2.1, (X6.out.far (p := ⟨b, 1, none⟩) (X6.out.ne_ D6.out (by decide)) qn).cell 0, (X6.out.far (p := ⟨b, 1, none⟩) (X6.out.ne_ D6.out (by decide)) qn).cell 1⟩)
        have hfz := D6.out.frozen 1
        have hd1 := D6.out.cell 1
        simp at hd1
        refine wpAnyS_ready [15] (by kernel_rfl) (by simp) (AllReadyS.cons (by simp only [List.getElem?_toArray, List.getElem?_cons_succ, List.getElem?_cons_zero]; rfl) rfl (fun K hK => ?_) AllReadyS.nil)
        go_simp
        rw [← HQN.out]
        refine hK.out _ _ S7.out ?_
        (try simp only [Act.put, List.setIfInBounds_toArray, List.set_cons_zero, List.set_cons_succ])
        clear hK K hHeld hfz hd1 D6 X6 hG6 hO hqa SA
        have hHeld := S7.out
        have HC7 := hid (Chg.trans HCa.out HQ.out.2 (fun k hk h => DFP.q_ HGr.out hk h))
        have HD7 := hid HQ.out.1
        generalize (w6.setCell ⟨b, 1, none⟩ qn) = w7 at *
        obtain ⟨v0, st, w8, r1, g1, w9, r2, g2, hs9⟩ := HD7.out.st.entry (f, (n : Int)) hi1 hi2 (by unfold maxLen; have := HN.out; omega)
        have HS9 := hid hs9
        have G9 := hid (gr_tr g1 g2)
        unfold csS at r1
        simp only [goInt] at r1 r2
        clear g1 g2 hs9
        refine wpAnyS_ready [16] (by kernel_rfl) (by simp) (AllReadyS.consL (by simp only [List.getElem?_toArray, List.getElem?_cons_succ, List.getElem?_cons_zero]; rfl) rfl (by kernel_rfl) (fun K hK => ?_) AllReadyS.nil)
        go_simp
        refine hK.out _ _ ?_
        (try simp only [Act.put, List.setIfInBounds_toArray, List.set_cons_zero, List.set_cons_succ])
        clear hK K r1
        refine wpAnyS_pureL 17 (v := ?_) (fun _ => trivial) (by simp only [List.getElem?_toArray, List.getElem?_cons_succ, List.getElem?_cons_zero]; rfl) (by kernel_rfl) (by kernel_rfl) (fun _ _ _ _ _ h => h) ⟨rfl, (by intro c h; cases h), ?_⟩ ?_
        rotate_left
        focus (intro wS hSw; (try replace hSw := HSF.out wS hSw); (try dsimp only at hSw); go_simp; (try with_reducible rfl))
        (try simp only [Act.put, List.setIfInBounds_toArray, List.set_cons_zero, List.set_cons_succ])
        refine wpAnyS_ready [18] (by kernel_rfl) (by simp) (AllReadyS.consL (by simp only [List.getElem?_toArray, List.getElem?_cons_succ, List.getElem?_cons_zero]; rfl) rfl (by kernel_rfl) (fun K hK => ?_) AllReadyS.nil)
        go_simp
        refine hK.out _ _ ?_
        (try simp only [Act.put, List.setIfInBounds_toArray, List.set_cons_zero, List.set_cons_succ])
        clear hK K r2 hHeld
        refine wpAnyS_done (by kernel_rfl) ?_
        have HD9 := hid (HD7.out.sets HS9.out G9.out (by omega))
        go_wp2_with fail
        go_roundw
        case rel => exact ⟨k + 1, qn, by have := HN.out; omega, by have := HN.out; subst this; go_num, HD9.out.1.mono (by omega), Chg.trans HC7.out HD9.out.2 (fun k hk h => DFP.q_ HGn.out hk h), HGn.out⟩
        case measure => simp [intOf]; omega
      · --11
        refine bslSec (fun _ => trivial) (.tmp 85) rfl rfl ?_
        obtain ⟨wa, hwa⟩ : ∃ wa, wa = wp.alloc (Obj.cells #[Value.int .i64 f, Value.int .i64 (n : Int)] 79) := ⟨_, rfl⟩
        have Ba := hid (show Below wp.heap.size wp wa by rw [hwa]; (repeat (first | exact Below.refl _ _ | assumption | refine below_drewN ?_ _ | refine Below.drew ?_ | refine Below.alloc ?_ (by (try simp); (try omega)) _ | refine Below.setCell ?_ (by (try simp); (try omega)) _)))
        have SA := hid (show SlR wa wa.heap.size (some ⟨wp.heap.size, 0, none⟩) ([(f, (n : Int))] : List (Int × Int)) from secRK.blk (l := [(f, (n : Int))]) (by rw [hwa]; exact Blk.new wp _ _) (by intro x hx; simp at hx; subst hx; exact ⟨hi1, hi2⟩))
        rw [← hwa]
        clear hwa
        have hqa := hid (hql.out.below Ba.out)
        have HDa := hid (HDp.out.below Ba.out)
        have XPa := hid (XP.out.below Ba.out XP.out.lt)
        have HCa := hid (Chg.trans HCp.out (Chg.of_below Ba.out (DFP b L)) (fun k _ h => h))
        have hba := hid (show base ≤ wa.heap.size by have := HCa.out.size; omega)
        have Sa := hid (show wa.cell? ⟨b, 2, none⟩ = some (.map (some L.ms)) ∧ wa.cell? ⟨gs, 0, none⟩ = some (.int .i64 f) ∧ wa.cell? ⟨gs, 1, none⟩ = some (.int .i64 (n : Int)) from ⟨HDa.out.cells.2.2.1, XPa.out.cell 0, XPa.out.cell 1⟩)
        refine hK.out _ _ Sa.out ?_
        (try simp only [Act.put, List.setIfInBounds_toArray, List.set_cons_zero, List.set_cons_succ])
        clear hK K hHeld
        have hHeld := Sa.out
        generalize wp.heap.size = gp at *
        have hc1 := HDa.out.cells.2.1
        simp only at hc1
        refine wpAnyS_ready [9] (by kernel_rfl) (by simp) (AllReadyS.cons (by simp only [List.getElem?_toArray, List.getElem?_cons_succ, List.getElem?_cons_zero]; rfl) rfl (fun K hK => ?_) AllReadyS.nil)
        go_simp
        refine hK.out _ _ Sa.out ?_
        clear hc1 hK K
        (try simp only [Act.put, List.setIfInBounds_toArray, List.set_cons_zero, List.set_cons_succ])
        refine wpAnyS_ready [12] (by kernel_rfl) (by simp) (AllReadyS.cons (by simp only [List.getElem?_toArray, List.getElem?_cons_succ, List.getElem?_cons_zero]; rfl) rfl (fun K hK => ?_) AllReadyS.nil)
        refine secRK.appS2 (fun _ => trivial) (.tmp 84) (.tmp 86) rfl rfl hqa.out (ys := [(f, (n : Int))]) (c := 1) rfl SA.out (by simp) hlen.out hba.out ?_
        intro qn w6 hO6 hg6 hl6
        have hO := hid hO6
        have HL6 := hid hl6
        obtain ⟨An, mn, cn, rfl⟩ : ∃ A m c, qn = .slice A m c := by obtain ⟨A, c, e⟩ := own_form hO6; exact ⟨A, _, c, e⟩
        obtain ⟨qn, hqn⟩ : ∃ qn, qn = Value.slice An mn cn := ⟨_, rfl⟩
        rw [← hqn] at hO HL6
        have HQN := hid hqn
        clear hqn
        have hG6 := hid (show wa.grownBy w6 qv.ownBlock from hg6)
        clear hO6 hg6 hl6
        have X6 := hid (XPa.out.grown hG6.out (fun e => HQG.out e.symm))
        have D6 := hid (HDa.out.d.grown hG6.out (fun e => own_blk_ne hqa.out HDa.out.d (by decide) e.symm))
        have S6 := hid (show w6.cell? ⟨b, 2, none⟩ = some (.map (some L.ms)) ∧ w6.cell? ⟨gs, 0, none⟩ = some (.int .i64 f) ∧ w6.cell? ⟨gs, 1, none⟩ = some (.int .i64 (n : Int)) from ⟨D6.out.cell 2, X6.out.cell 0, X6.out.cell 1⟩)
        refine hK.out _ _ S6.out ?_
        (try simp only [Act.put, List.setIfInBounds_toArray, List.set_cons_zero, List.set_cons_succ])
        clear hK K hHeld
        have hHeld := S6.out
        refine wpAnyS_pure 13 (v := ?_) (fun _ => trivial) (by simp only [List.getElem?_toArray, List.getElem?_cons_succ, List.getElem?_cons_zero]; rfl) (by kernel_rfl) (fun _ _ _ _ _ h => h) ⟨rfl, (by intro c h; cases h), ?_⟩ hHeld ?_
        rotate_left
        focus (intro wS hSw; (try replace hSw := HSF.out wS hSw); (try dsimp only at hSw); go_simp; (try with_reducible rfl))
        (try simp only [Act.put, List.setIfInBounds_toArray, List.set_cons_zero, List.set_cons_succ])
        refine wpAnyS_pure 14 (v := ?_) (fun _ => trivial) (by simp only [List.getElem?_toArray, List.getElem?_cons_succ, List.getElem?_cons_zero]; rfl) (by kernel_rfl) (fun _ _ _ _ _ h => h) ⟨rfl, (by intro c h; cases h), ?_⟩ hHeld ?_
        rotate_left
        focus (intro wS hSw; (try replace hSw := HSF.out wS hSw); (try dsimp only at hSw); go_simp; (try with_reducible rfl))
        (try simp only [Act.put, List.setIfInBounds_toArray, List.set_cons_zero, List.set_cons_succ])
        have HQ := hid (HDa.out.queue (N' := N + 1 + 2 * k + 1) hO.out hG6.out HL6.out (by rw [List.length_append]; have := HL.out.1; simp only [List.length_singleton]; omega) (by intro x hx; rcases List.mem_append.1 hx with h | h; exact HL.out.2 x h; simp at h; subst h; exact hsec.out) (by omega))
        have HGn := hid (fun (g : Nat) (hg : qn.ownBlock = some g) => (HL6.out g hg).elim (fun h => HGr.out g h) (fun h => Or.inr (Nat.le_trans HCa.out.size h)))
        have S7 := hid (show (w6.setCell ⟨b, 1, none⟩ qn).cell? ⟨b, 2, none⟩ = some (.map (some L.ms)) ∧ (w6.setCell ⟨b, 1, none⟩ qn).cell? ⟨gs, 0, none⟩ = some (.int .i64 f) ∧ (w6.setCell ⟨b, 1, none⟩ qn).cell? ⟨gs, 1, none⟩ = some (.int .i64 (n : Int)) from ⟨HQ.out.1.cells.2.2.1, (X6.out.far (p := ⟨b, 1, none⟩) (X6.out.ne_ D6.out (by decide)) qn).cell 0, (X6.out.far (p := ⟨b, 1, none⟩) (X6.out.ne_ D6.out (by decide)) qn).cell 1⟩)
        have hfz := D6.out.frozen 1
        have hd1 := D6.out.cell 1
        simp at hd1
        refine wpAnyS_ready [15] (by kernel_rfl) (by simp) (AllReadyS.cons (by simp only [List.getElem?_toArray, List.getElem?_cons_succ, List.getElem?_cons_zero]; rfl) rfl (fun K hK => ?_) AllReadyS.nil)
        go_simp
        rw [← HQN.out]
        refine hK.out _ _ S7.out ?_
        (try simp only [Act.put, List.setIfInBounds_toArray, List.set_cons_zero, List.set_cons_succ])
        clear hK K hHeld hfz hd1 D6 X6 hG6 hO hqa SA
        have hHeld := S7.out
        have HC7 := hid (Chg.trans HCa.out HQ.out.2 (fun k hk h => DFP.q_ HGr.out hk h))
        have HD7 := hid HQ.out.1
        generalize (w6.setCell ⟨b, 1, none⟩ qn) = w7 at *
        obtain ⟨v0, st, w8, r1, g1, w9, r2, g2, hs9⟩ := HD7.out.st.entry (f, (n : Int)) hi1 hi2 (by unfold maxLen; have := HN.out; omega)
        have HS9 := hid hs9
        have G9 := hid (gr_tr g1 g2)
        unfold csS at r1
        simp only [goInt] at r1 r2
        clear g1 g2 hs9
        refine wpAnyS_ready [16] (by kernel_rfl) (by simp) (AllReadyS.consL (by simp only [List.getElem?_toArray, List.getElem?_cons_succ, List.getElem?_cons_zero]; rfl) rfl (by kernel_rfl) (fun K hK => ?_) AllReadyS.nil)
        go_simp
        refine hK.out _ _ ?_
        (try simp only [Act.put, List.setIfInBounds_toArray, List.set_cons_zero, List.set_cons_succ])
        clear hK K r1
        refine wpAnyS_pureL 17 (v := ?_) (fun _ => trivial) (by simp only [List.getElem?_toArray, List.getElem?_cons_succ, List.getElem?_cons_zero]; rfl) (by kernel_rfl) (by kernel_rfl) (fun _ _ _ _ _ h => h) ⟨rfl, (by intro c h; cases h), ?_⟩ ?_
        rotate_left
        focus (intro wS hSw; (try replace hSw := HSF.out wS hSw); (try dsimp only at hSw); go_simp; (try with_reducible rfl))
        (try simp only [Act.put, List.setIfInBounds_toArray, List.set_cons_zero, List.set_cons_succ])
        refine wpAnyS_ready [18] (by kernel_rfl) (by simp) (AllReadyS.consL (by simp only [List.getElem?_toArray, List.getElem?_cons_succ, List.getElem?_cons_zero]; rfl) rfl (by kernel_rfl) (fun K hK => ?_) AllReadyS.nil)
        go_simp
        refine hK.out _ _ ?_
        (try simp only [Act.put, List.setIfInBounds_toArray, List.set_cons_zero, List.set_cons_succ])
        clear hK K r2 hHeld
        refine wpAnyS_done (by kernel_rfl) ?_
        have HD9 := hid (HD7.out.sets HS9.out G9.out (by omega))
        go_wp2_with fail
        go_roundw
        case rel => exact ⟨k + 1, qn, by have := HN.out; omega, by have := HN.out; subst this; go_num, HD9.out.1.mono (by omega), Chg.trans HC7.out HD9.out.2 (fun k hk h => DFP.q_ HGn.out hk h), HGn.out⟩
        case measure => simp [intOf]; omega
end Go.Proofs.YtbefmjodpndndaaDoor
namespace Go.Proofs.YtbefmjodpndndaaDoor
open Go.RowKit Go.IntWalk

set_option maxRecDepth 100000 in
/-- The closures: is it a sector of the file f? -/
theorem set1_any (x1 x2 : Int) (f : Int) (gf : Nat) (w : World) (hf : Blk w gf 3 #[.int .i64 f]) :
    Calls Tryd.prog 58 #[.agg #[.int .i64 x1, .int .i64 x2], .pointer (some ⟨gf, 0, none⟩)] w fun e w' => e = .returned (.bool (x1 == f)) ∧ Below w.heap.size w w' := by
  have c0 := hf.cell 0
  have hlt := hf.lt
  simp at c0
  go_enter Tryd.func58, Tryd.ntmps58
  go_wp2_with fail
  go_ret
  exact ⟨rfl, by (repeat (first | exact Below.refl _ _ | assumption | refine below_drewN ?_ _ | refine Below.drew ?_ | refine Below.alloc ?_ (by (try simp); (try omega)) _ | refine Below.setCell ?_ (by (try simp); (try omega)) _))⟩
set_option maxRecDepth 100000 in
theorem set2_any (x1 x2 : Int) (r : Bool) (f : Int) (gf : Nat) (w : World) (hf : Blk w gf 3 #[.int .i64 f]) :
    Calls Tryd.prog 60 #[.agg #[.int .i64 x1, .int .i64 x2], .bool r, .pointer (some ⟨gf, 0, none⟩)] w fun e w' => e = .returned (.bool (x1 == f)) ∧ Below w.heap.size w w' := by
  have c0 := hf.cell 0
  have hlt := hf.lt
  simp at c0
  go_enter Tryd.func60, Tryd.ntmps60
  go_wp2_with fail
  go_ret
  exact ⟨rfl, by (repeat (first | exact Below.refl _ _ | assumption | refine below_drewN ?_ _ | refine Below.drew ?_ | refine Below.alloc ?_ (by (try simp); (try omega)) _ | refine Below.setCell ?_ (by (try simp); (try omega)) _))⟩
set_option maxRecDepth 100000 in
set_option maxHeartbeats 2000000 in
theorem six_any (f : Int) (gf : Nat) (A : Option Addr) (c : Nat) (l : List (Int × Int)) (w : World) (hl : l.length ≤ 100000000) (hs : SlR w w.heap.size A l) (hf : Blk w gf 3 #[.int .i64 f]) :
    Calls Tryd.prog 71 #[.slice A l.length c, .func (.func 58) #[] #[.pointer (some ⟨gf, 0, none⟩)]] w fun e w' => ∃ r : Int, e = .returned (.int .i64 r) ∧ (r = -1 ∨ 0 ≤ r ∧ r < l.length) ∧ Below w.heap.size w w' := by
  have eg := enters_of Tryd.func58 (by kernel_rfl) rfl
  have HS := hid (fun (W : World) (hW : Below w.heap.size w W) => (hs.below hW).more hW.size)
  have HF := hid hf
  clear hs hf
  go_enter Tryd.func71, Tryd.ntmps71
  go_wp2_with fail
  go_loopw [8] (fun i wr => ∃ k : Nat, k ≤ l.length ∧ i = .int .i64 k ∧ Below w.heap.size w wr) (fun i _ => l.length - (intOf i).toNat)
  case atStart => exact ⟨0, by omega, rfl, Below.refl _ _⟩
  case round =>
    obtain ⟨k, hk, rfl, hB⟩ := hrel
    have HBk := hid hB
    clear hB
    by_cases hlt : k < l.length
    case neg =>
      obtain rfl : k = l.length := by omega
      go_wp2_with fail
      go_ret
      exact ⟨-1, rfl, .inl rfl, HBk.out⟩
    case pos =>
    have hltI : (k : Int) < l.length := by omega
    obtain ⟨b, off, rfl, hb, hc, ho⟩ := secRK.elem (HS.out wr HBk.out) hlt
    have hc0 : wr.cell? ⟨b, off + k * 2, none⟩ = some (.int .i64 (l[k]).1) := hc 0 (by decide)
    have hc1 : wr.cell? ⟨b, off + k * 2 + 1, none⟩ = some (.int .i64 (l[k]).2) := hc 1 (by decide)
    have HC := hid (fun (W : World) (hW : Below w.heap.size w W) => set1_any (l[k]).1 (l[k]).2 f gf W (HF.out.below hW HF.out.lt))
    clear hc
    generalize l[k] = x at *
    obtain ⟨x1, x2⟩ := x
    simp only at hc0 hc1 HC
    go_wp2_with fail
    refine (HC.out wr HBk.out).mono ?_
    rintro e w2 ⟨rfl, hB⟩
    have B2 := hid (HBk.out.trans (hB.mono HBk.out.size))
    clear hB HC hc0 hc1
    generalize (x1 == f) = hit at *
    cases hit with
    | true =>
      go_wp2_with fail
      go_ret
      exact ⟨(k : Int), rfl, .inr ⟨by omega, hltI⟩, B2.out⟩
    | false =>
      go_wp2_with fail
      go_roundw
      case rel => exact ⟨k + 1, by omega, by go_num, B2.out⟩
      case measure => simp [intOf]; omega
/-- clear of a row's end. -/
theorem clear_sec {w : World} {base g c n : Nat} {l : List (Int × Int)} (h : secRK.Own w base (.slice (some ⟨g, 0, none⟩) n c) l) {i : Nat} (hi : i < l.length) (ty : TypeId) :
    ∃ w', (Builtin.clear_ #[58] ty #[.slice (some ⟨g, i * 2, none⟩) (l.length - i) (c - i)]).run Tryd.prog w = .ok (.tuple #[]) w' ∧ secRK.Own w' base (.slice (some ⟨g, 0, none⟩) i c) (l.take i) ∧ w.grownBy w' (some g) := by
  rcases h.2 with ⟨hv, _⟩ | ⟨g', cap, cur, hv, hg, hb, hc, hm, hsz, htk⟩
  · cases hv
  injection hv with h1 h2 h3
  injection h1 with h1
  injection h1 with h1
  subst h1 h3
  have hz : ∀ W, (zeroValue 79).run Tryd.prog W = .ok (.agg #[.int .i64 0, .int .i64 0]) W := fun W => by kernel_rfl
  have hsz' : cur.size = c * 2 := hsz
  obtain ⟨Z, hZ⟩ : ∃ Z : List Value, Z = (Builtin.zeroCells (Value.agg #[Value.int .i64 0, Value.int .i64 0]).cells (l.length - i)).toList := ⟨_, rfl⟩
  have hZl : Z.length = (l.length - i) * 2 := by rw [hZ]; simp [Builtin.zeroCells, Value.cells]
  have hZ1 : ∀ v ∈ Z, v.oneCell' = true := by
    intro v hv
    rw [hZ] at hv
    simp only [Builtin.zeroCells, Value.cells, Array.toList_map, List.mem_map] at hv
    obtain ⟨k, _, rfl⟩ := hv
    rcases Nat.mod_two_eq_zero_or_one k with e | e <;> simp [e, Value.oneCell']
  have hst := run_storeCells_at Tryd.prog g (i * 2) 79 Z 0 cur w hb (by rw [hZl]; omega) hZ1
  have hti : (l.take i).length = i := by rw [List.length_take]; omega
  have hcl : (cur.toList.take (i * 2 + 0) ++ Z ++ cur.toList.drop (i * 2 + 0 + Z.length)).length = c * 2 := by
    simp only [List.length_append, List.length_take, List.length_drop, Array.length_toList, hZl, hsz']
    omega
  refine ⟨w.setRow g (cur.toList.take (i * 2 + 0) ++ Z ++ cur.toList.drop (i * 2 + 0 + Z.length)).toArray, ?_, ?_, ?_⟩
  · obtain ⟨m, hm'⟩ : ∃ m, l.length - i = m + 1 := ⟨l.length - i - 1, by omega⟩
    rw [hZ] at hst ⊢
    rw [hm'] at hst ⊢
    simp only [Builtin.clear_, List.getElem?_toArray, List.getElem?_cons_zero, Sem.run_bind, run_underlying Tryd.underlying58, Result.andThen_ok, hz, hst]
    rfl
  · unfold RK.Own
    rw [hti]
    refine ⟨by rw [RK.all_len, hti], .inr ⟨g, c, _, rfl, hg, setRow_heap _ _ cur _ _ _ hb, by omega, hm, ?_, ?_⟩⟩
    · rw [← Array.length_toList, List.toList_toArray]; exact hcl
    · rw [List.toList_toArray, List.append_assoc, List.take_append_of_le_length (by rw [List.length_take, Array.length_toList, hsz']; show i * 2 ≤ _; omega), List.take_take]
      have e1 : min (i * secRK.size) (i * 2 + 0) = i * 2 := by show min (i * 2) (i * 2 + 0) = i * 2; omega
      rw [e1]
      have e2 : cur.toList.take (i * 2) = (cur.toList.take (l.length * 2)).take (i * 2) := by rw [List.take_take]; congr 1; omega
      rw [e2, show cur.toList.take (l.length * 2) = secRK.all l from htk]
      have e3 : secRK.all l = secRK.all (l.take i) ++ secRK.all (l.drop i) := by rw [← RK.all_app, List.take_append_drop]
      rw [e3, List.take_append_of_le_length (by rw [RK.all_len, hti]; exact Nat.le_refl _), List.take_of_length_le (by rw [RK.all_len, hti]; exact Nat.le_refl _)]
  · exact ⟨rfl, rfl, rfl, by simp, fun k hk hne => setRow_other _ _ _ _ (fun e => hne (by rw [e]))⟩
end Go.Proofs.YtbefmjodpndndaaDoor
