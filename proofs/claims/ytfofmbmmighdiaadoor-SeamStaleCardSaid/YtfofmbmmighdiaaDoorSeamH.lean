
/- Seam: Clone, Copy. -/
import Derived.Test.YtfofmbmmighdiaaDoorSeamF
import Derived.Maps.AppendAt
import Derived.Deep.RegionWith
set_option linter.unusedSimpArgs false
set_option linter.unusedVariables false
namespace Go.Proofs.YtfofmbmmighdiaaDoor
open Go.RowKit Go.IntWalk

section
variable {ops : Array Oper} {rest : List Oper} {o : Oper} {a : Act} {Q : Exit → Act → World → Prop}
theorem wp_appRs (w : World) (hgd : o.guard = none) (s x : Operand) (ho : o.op = .call { callee := .builtin .append, args := #[s, x], argTypes := #[81, 81] })
    (base : Nat) (v : Value) (l : List Rob) (hs : a.eval s = v) (hown : w.ownsRow base 85 3 v l.length (rc l)) (ad : Addr) (c : Nat) (ys : List Rob) (hx : a.eval x = .slice (some ad) ys.length c)
    (hcell : ∀ (j : Nat) (u : Value), (rc ys)[j]? = some u → w.cell? (ad.add j) = some u) (hlen : l.length + ys.length ≤ 1000000) (hbase : base ≤ w.heap.size)
    (h : ∀ v' w', w'.ownsRow base 85 3 v' (l ++ ys).length (rc (l ++ ys)) → w.grownBy w' v.ownBlock → (v'.ownBlock = v.ownBlock ∨ v'.ownBlock = some w.heap.size) → wpList Tryd.prog ops Q rest (a.put o.dst v') w') : wpList Tryd.prog ops Q (o :: rest) a w := by
  obtain ⟨i0, hi, hz0, hz1, hz2⟩ := info_parts infoRob
  refine wpList_append_own_at w hgd s x 81 ho base 85 i0 _ 3 24 Tryd.underlying81 hi hz0 hz1 hz2 rfl (by omega) v l.length _ hs hown ad ys.length c (rc ys) hx (by rw [rc_len]) hcell ?_ (by unfold maxLen; omega) (by omega) hbase ?_
  · have : ∀ (l : List Rob), ∀ u ∈ rc l, u.oneCell' = true := by
      intro l
      induction l with
      | nil => intro u hu; simp [rc] at hu
      | cons r l ih =>
        intro u hu
        simp only [rc, List.mem_cons] at hu
        rcases hu with rfl | rfl | rfl | hu
        · simp [Value.oneCell']
        · simp [Value.oneCell']
        · simp [Value.oneCell']
        · exact ih u hu
    exact this ys
  · intro v' w' h1 h2 _ h4
    refine h v' w' ?_ h2 h4
    rw [List.length_append, rc_app]
    exact h1
end
theorem add_at (g j : Nat) : (⟨g, 0, none⟩ : Addr).add j = ⟨g, j, none⟩ := by unfold Addr.add; split <;> simp_all
set_option maxRecDepth 100000 in
set_option maxHeartbeats 1000000 in
theorem rclone_any (base : Nat) (v : Value) (rs : List Rob) (w : World) (h : w.ownsRow base 85 3 v rs.length (rc rs)) (hn : rs.length ≤ 100000) :
    Calls Tryd.prog 58 #[v] w fun e w' => ∃ v', e = .returned v' ∧ w'.ownsRow w.heap.size 85 3 v' rs.length (rc rs) ∧ Below w.heap.size w w' := by
  rcases h.2 with ⟨rfl, h0⟩ | ⟨g, cap, cur, rfl, hg, hh, hc, hm, hcs, ht⟩
  · have : rs = [] := List.eq_nil_of_length_eq_zero h0
    subst this
    have hn1 := fun W => Lib.run_eql_slice_nil (P := Tryd.prog) W 81 85 none 0 0 0 0 Tryd.underlying81
    simp only [Option.isNone_none] at hn1
    go_enter Tryd.func58, Tryd.ntmps58
    go_wp2_with fail
    go_ret
    exact ⟨_, rfl, ⟨rfl, .inl ⟨rfl, rfl⟩⟩, Below.refl _ _⟩
  · have hcell : Hid (∀ (j : Nat) (u : Value), (rc rs)[j]? = some u → (w.alloc (Obj.cells #[] 85)).cell? ((⟨g, 0, none⟩ : Addr).add j) = some u) := hid (fun j u hu => by
      rw [add_at]
      have hj : j < (rc rs).length := by
        rcases Nat.lt_or_ge j (rc rs).length with h | h
        · exact h
        · rw [List.getElem?_eq_none h] at hu; cases hu
      rw [rc_len] at hj
      have h1 := (h.alloc (Obj.cells #[] 85)).cellAt j hj
      rw [h1]; exact hu)
    have hown : Hid ((w.alloc (Obj.cells #[] 85)).ownsRow w.heap.size 85 3 (.slice (some ⟨w.heap.size, 0, none⟩) 0 0) ([] : List Rob).length (rc [])) := hid (⟨rfl, .inr ⟨w.heap.size, 0, #[], rfl, Nat.le_refl _, heap_alloc_new w _, Nat.le_refl _, Nat.zero_le _, rfl, rfl⟩⟩)
    have hn1 := fun W => Lib.run_eql_slice_nil (P := Tryd.prog) W 81 85 (some ⟨g, 0, none⟩) rs.length cap 0 0 Tryd.underlying81
    simp only [Option.isNone_some] at hn1
    clear h hh hcs ht hg
    go_enter Tryd.func58, Tryd.ntmps58
    go_wp2_with (at_builtin; refine wp_appRs _ rfl (.tmp 5) (.tmp 6) rfl w.heap.size (.slice (some ⟨w.heap.size, 0, none⟩) 0 0) [] rfl hown.out ⟨g, 0, none⟩ cap rs rfl hcell.out (by simp; omega) (by simp) ?_; intro v1 w1 ho1 hg1 hat1)
    clear hn1
    go_wp2_with fail
    go_ret
    refine ⟨_, rfl, by simpa using ho1, ?_⟩
    refine ((Below.refl _ w).alloc (Nat.le_refl _) _).grown hg1 (by simp) ?_
    intro k hk
    have hk' : some w.heap.size = some k := hk
    injection hk' with e
    omega
theorem own_form {w : World} {base : Nat} {e : TypeId} {size n : Nat} {v : Value} {xs : List Value} (h : w.ownsRow base e size v n xs) : ∃ A c, v = .slice A n c := by
  rcases h.2 with ⟨rfl, rfl⟩ | ⟨g, cap, cur, rfl, _⟩
  · exact ⟨_, _, rfl⟩
  · exact ⟨_, _, rfl⟩
theorem copy_mk {w w1 : World} {me : Int} {rs : List Rob} {v : Value} (ho : w1.ownsRow w.heap.size 85 3 v rs.length (rc rs)) (hB : Below w.heap.size w w1) :
    NewRes w me (some rs) (.returned (.pointer (some ⟨w1.heap.size, 0, none⟩))) (w1.alloc (Obj.cells #[.int .i64 me, v] 83)) :=
  ⟨w1.heap.size, v, rfl, hB.size, ⟨Blk.new _ _ _, ho.alloc _⟩, hB.alloc hB.size _⟩
set_option maxRecDepth 100000 in
set_option maxHeartbeats 1000000 in
theorem copy_any {w : World} {base b : Nat} {v : Value} {me : Int} {rs : List Rob} (h : Dk w base b v me rs) (hn : rs.length ≤ 100000) : Calls Tryd.prog 21 #[.pointer (some ⟨b, 0, none⟩)] w (NewRes w me (some rs)) := by
  obtain ⟨d0, d1⟩ := dk2 h
  have hz := h.d.lt
  have hcl := hid (rclone_any base v rs w.drew h.r hn)
  clear h
  go_enter Tryd.func21, Tryd.ntmps21
  go_wp2_with fail
  go_region_with (go_at_call 58; (with_reducible refine hcl.out.mono ?_); rintro e w1 ⟨v', rfl, ho, hB⟩; obtain ⟨A', c', rfl⟩ := own_form ho; have a0 := (bcell hB b 0 hz).trans d0; have a1 := (bcell hB b 1 hz).trans d1)
  all_goals
    go_wp2_with fail
    go_ret
    exact copy_mk ho (show Below w.heap.size w w1 from (show Below w.heap.size w w.drew by (repeat (first | exact Below.refl _ _ | assumption | refine below_drewN ?_ _ | refine Below.drew ?_ | refine Below.alloc ?_ (by (try simp); (try omega)) _ | refine Below.setCell ?_ (by (try simp); (try omega)) _))).trans hB)
end Go.Proofs.YtfofmbmmighdiaaDoor
