
/- Net: the list of what is in flight; a row of packets beside the network's own. -/
import Derived.Test.YtfofmbmmighdiaaDoorSeamNe
set_option linter.unusedSimpArgs false
set_option linter.unusedVariables false
namespace Go.Proofs.YtfofmbmmighdiaaDoor
open Go.RowKit Go.IntWalk

set_option maxRecDepth 100000 in
set_option maxHeartbeats 1000000 in
theorem pclone_any (base : Nat) (v : Value) (F : List Pk) (w : World) (h : w.ownsRow base 76 3 v F.length (pc F)) (hn : F.length ≤ 100000) :
    Calls Tryd.prog 68 #[v] w fun e w' => ∃ v', e = .returned v' ∧ w'.ownsRow w.heap.size 76 3 v' F.length (pc F) ∧ Below w.heap.size w w' := by
  rcases h.2 with ⟨rfl, h0⟩ | ⟨g, cap, cur, rfl, hg, hh, hc, hm, hcs, ht⟩
  · have : F = [] := List.eq_nil_of_length_eq_zero h0
    subst this
    have hn1 := fun W => Lib.run_eql_slice_nil (P := Tryd.prog) W 73 76 none 0 0 0 0 Tryd.underlying73
    simp only [Option.isNone_none] at hn1
    go_enter Tryd.func68, Tryd.ntmps68
    go_wp2_with fail
    go_ret
    exact ⟨_, rfl, ⟨rfl, .inl ⟨rfl, rfl⟩⟩, Below.refl _ _⟩
  · have hcell : Hid (∀ (j : Nat) (u : Value), (pc F)[j]? = some u → (w.alloc (Obj.cells #[] 76)).cell? ((⟨g, 0, none⟩ : Addr).add j) = some u) := hid (fun j u hu => by
      rw [add_at]
      have hj : j < (pc F).length := by
        rcases Nat.lt_or_ge j (pc F).length with h | h
        · exact h
        · rw [List.getElem?_eq_none h] at hu; cases hu
      rw [pc_len] at hj
      have h1 := (h.alloc (Obj.cells #[] 76)).cellAt j hj
      rw [h1]; exact hu)
    have hown : Hid ((w.alloc (Obj.cells #[] 76)).ownsRow w.heap.size 76 3 (.slice (some ⟨w.heap.size, 0, none⟩) 0 0) ([] : List Pk).length (pc [])) := hid (⟨rfl, .inr ⟨w.heap.size, 0, #[], rfl, Nat.le_refl _, heap_alloc_new w _, Nat.le_refl _, Nat.zero_le _, rfl, rfl⟩⟩)
    have hn1 := fun W => Lib.run_eql_slice_nil (P := Tryd.prog) W 73 76 (some ⟨g, 0, none⟩) F.length cap 0 0 Tryd.underlying73
    simp only [Option.isNone_some] at hn1
    clear h hh hcs ht hg
    go_enter Tryd.func68, Tryd.ntmps68
    go_wp2_with (at_builtin; refine wp_appPk _ rfl (.tmp 5) (.tmp 6) rfl w.heap.size (.slice (some ⟨w.heap.size, 0, none⟩) 0 0) [] rfl hown.out ⟨g, 0, none⟩ cap F rfl hcell.out (by simp; omega) (by simp) ?_; intro v1 w1 ho1 hg1 hat1)
    clear hn1
    go_wp2_with fail
    go_ret
    refine ⟨_, rfl, by simpa using ho1, ?_⟩
    refine ((Below.refl _ w).alloc (Nat.le_refl _) _).grown hg1 (by simp) ?_
    intro k hk
    have hk' : some w.heap.size = some k := hk
    injection hk' with e
    omega
theorem nlist_any {w : World} {base nn : Nat} {v : Value} {F : List Pk} {sp : Int} (h : Nt w base nn v F sp) (hF : F.length ≤ 500) :
    Calls Tryd.prog 39 #[.pointer (some ⟨nn, 0, none⟩)] w fun e w' => ∃ v', e = .returned v' ∧ w'.ownsRow w.heap.size 76 3 v' F.length (pc F) ∧ Below w.heap.size w w' := by
  have hc := hid (pclone_any base v F w h.r (by omega))
  obtain ⟨d0, d1⟩ := nt2 h
  have hz := h.d.lt
  obtain ⟨A, c, rfl, _, _, _⟩ := pk_row h.r
  clear h
  go_enter Tryd.func39, Tryd.ntmps39
  go_wp2_with fail
  refine hc.out.mono ?_
  rintro e w1 ⟨v', rfl, ho, hB⟩
  have H := hid (And.intro ho hB)
  obtain ⟨A', c', rfl, _, _, _⟩ := pk_row ho
  clear ho hB
  go_wp2_with fail
  go_ret
  exact ⟨_, rfl, H.out.1, H.out.2⟩
/-- A row of packets that is not the network's own (v: the network's; v': behind the call) stays, and stays apart. -/
def Keep (w : World) (v : Value) (w' : World) (v' : Value) : Prop := ∀ (xs : Nat) (vs : Value) (S : List Pk), w.ownsRow xs 76 3 vs S.length (pc S) → (∀ g, vs.ownBlock = some g → v.ownBlock ≠ some g) →
  w'.ownsRow xs 76 3 vs S.length (pc S) ∧ ∀ g, vs.ownBlock = some g → v'.ownBlock ≠ some g
theorem Keep.trans {w w1 w2 : World} {v v1 v2 : Value} (h : Keep w v w1 v1) (h' : Keep w1 v1 w2 v2) : Keep w v w2 v2 := fun xs vs S a b => by
  obtain ⟨c, d⟩ := h xs vs S a b
  exact h' xs vs S c d
theorem Keep.below {w w' : World} {v : Value} (hb : Below w.heap.size w w') : Keep w v w' v := fun _ _ _ a b => ⟨(Chg.of_below hb (fun _ => False)).row a (fun _ _ h => h), b⟩
theorem Keep.net {w w' : World} {base nn : Nat} {v v' : Value} {F : List Pk} {sp : Int} (h : Nt w base nn v F sp) (C : Chg w w' (NetS nn v)) (hf : ∀ g, v'.ownBlock = some g → v.ownBlock = some g ∨ w.heap.size ≤ g) : Keep w v w' v' := by
  intro xs vs S a b
  refine ⟨C.row a (fun g hg e => ?_), fun g hg e => ?_⟩
  · rcases e with rfl | e
    · exact own_blk_ne a h.d (by decide) hg
    · exact b g hg e
  · rcases hf g e with e | e
    · exact b g hg e
    · have := (a.lt g hg).2; omega
theorem Keep.row {w w' : World} {base n s : Nat} {t : TypeId} {v vd : Value} {L : List Value} (h : w.ownsRow base t s vd n L) (ht : t ≠ 76) (hg : w.grownBy w' vd.ownBlock) : Keep w v w' v := by
  intro xs vs S a b
  refine ⟨(Chg.of_grown hg (S := fun k => some k = vd.ownBlock) (fun _ e => e)).row a (fun g hgs e => ?_), b⟩
  rcases h.2 with ⟨rfl, _⟩ | ⟨g1, cap, cur, rfl, _, hh, _⟩
  · simp [Value.ownBlock] at e
  · have e1 : g = g1 := by simpa [Value.ownBlock] using e
    subst e1
    exact own_blk_ne (cs := cur) a hh (fun e => ht e.symm) hgs
end Go.Proofs.YtfofmbmmighdiaaDoor
