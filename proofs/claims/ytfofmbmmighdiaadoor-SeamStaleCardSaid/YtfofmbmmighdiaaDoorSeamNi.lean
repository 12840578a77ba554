
/- Seam: what an act leaves, in plain words; sending nothing; a desk is replaced. -/
import Derived.Test.YtfofmbmmighdiaaDoorSeamNh
import Derived.Test.YtfofmbmmighdiaaDoorSeamJ
set_option linter.unusedSimpArgs false
set_option linter.unusedVariables false
namespace Go.Proofs.YtfofmbmmighdiaaDoor
open Go.RowKit Go.IntWalk

theorem nxt_a {M : Int} {n : Nat} {ra rb ra' : List Rob} {F : List Pk} {sp : Int} (h : Inv M n ra rb F sp) (s : Stp (M + 1) ra rb ra' n) : Nxt M n ra rb ra' rb F sp :=
  ⟨⟨s.two h.t (by omega), fun p hp => s.pkA (h.f p hp), h.l, h.s⟩, fun _ hp => s.pkA hp⟩
theorem nxt_b {M : Int} {n : Nat} {ra rb rb' : List Rob} {F : List Pk} {sp : Int} (h : Inv M n ra rb F sp) (s : Stp (M + 1) rb ra rb' n) : Nxt M n ra rb ra rb' F sp :=
  ⟨⟨(s.two h.t.symm (by omega)).symm, fun p hp => s.pkB (h.f p hp), h.l, h.s⟩, fun _ hp => s.pkB hp⟩
theorem Nxt.less {M : Int} {n : Nat} {ra rb ra' rb' : List Rob} {F F' : List Pk} {sp sp' : Int} (h : Nxt M n ra rb ra' rb' F sp) (hF : ∀ p ∈ F', p ∈ F) (hl : F'.length ≤ 500) (hs : sp' = 0 ∨ sp' = 1) : Nxt M n ra rb ra' rb' F' sp' :=
  ⟨⟨h.i.t, fun p hp => h.i.f p (hF p hp), hl, hs⟩, h.k⟩
theorem Nxt.send {M : Int} {n : Nat} {ra rb ra' rb' : List Rob} {F : List Pk} {sp : Int} (h : Nxt M n ra rb ra' rb' F sp) {p : Pk} (hp : PkOK ra' rb' n p) : Nxt M n ra rb ra' rb' (sendN F sp p) sp :=
  ⟨⟨h.i.t, fun q hq => (sendN_mem hq).elim (h.i.f q) (fun e => e ▸ hp), sendN_len h.i.l, h.i.s⟩, h.k⟩
theorem nxt_same {M : Int} {n : Nat} {ra rb : List Rob} {F : List Pk} {sp : Int} (h : Inv M n ra rb F sp) : Nxt M n ra rb ra rb F sp := nxt_a h (stp_same h.t (by omega))
theorem pk_ab {ra rb : List Rob} {n : Nat} {m : Pas} (h : PkTo rb ra n m) : PkOK ra rb n (0, 1 - 0, bs (encP m)) := ⟨m, rfl, .inr ⟨rfl, rfl, h⟩⟩
theorem pk_ba {ra rb : List Rob} {n : Nat} {m : Pas} (h : PkTo ra rb n m) : PkOK ra rb n (1, 1 - 1, bs (encP m)) := ⟨m, rfl, .inl ⟨rfl, rfl, h⟩⟩
theorem dblN_mem {F : List Pk} {i : Int} {q : Pk} (h : q ∈ dblN F i) : q ∈ F := by
  unfold dblN at h
  split at h
  · rename_i hc
    rcases List.mem_append.1 h with h | h
    · exact h
    · obtain ⟨k, rfl⟩ : ∃ k : Nat, i = k := ⟨i.toNat, by omega⟩
      have hk : k < F.length := by omega
      rw [getN_yes hk] at h
      simp only [List.mem_cons, List.not_mem_nil, or_false] at h
      rw [h]
      exact List.getElem_mem hk
  · exact h
theorem dblN_len {F : List Pk} {i : Int} (h : F.length ≤ 500) : (dblN F i).length ≤ 500 := by
  unfold dblN
  split
  · rename_i hc; simp; omega
  · exact h
/-- What an act leaves. -/
def ActRes (w0 : World) (px : Nat) (M : Int) (n : Nat) (ra rb : List Rob) (e : Ending) (w' : World) : Prop :=
  e = .returned (.bool true) ∧ ∃ ra' rb' F' sp', PairR w0 px ra' rb' F' sp' w' ∧ Nxt M n ra rb ra' rb' F' sp'
section
variable {w0 wx wy : World} {px gd nn na nb xa xb xn : Nat} {va vb vn : Value} {ra rb : List Rob} {F : List Pk} {sp : Int}
theorem psend_no (h : Pr w0 px gd nn na nb xa xb xn va vb vn ra rb F sp wx) (who k i n en : Int) (hen : (en == 0) = false) :
    Calls Tryd.prog 36 #[.pointer (some ⟨px, 0, none⟩), .int .i64 who, .agg #[.int .i64 k, .int .i64 i, .int .i64 n], .int .i64 en] wx (fun e w' => PrNet w0 px gd nn na nb xa xb xn va vb ra rb F sp w' (.tuple #[]) e) := by
  have P1 := hid (h.alloc (Obj.cells #[.int .i64 k, .int .i64 i, .int .i64 n] 27))
  clear h
  go_enter Tryd.func36, Tryd.ntmps36
  go_wp2_with fail
  go_end0
  exact ⟨rfl, vn, P1.out⟩
theorem Pr.desk (h : Pr w0 px gd nn na nb xa xb xn va vb vn ra rb F sp wx) (i : Nat) (v : Value) : wx.grownBy (wx.setCell ⟨gd, i, none⟩ v) (some gd) := grown_s _ _ _ _
/-- The first desk is replaced by one that was read. -/
theorem Pr.swapA (h : Pr w0 px gd nn na nb xa xb xn va vb vn ra rb F sp wx) (hB : Below wx.heap.size wx wy) {nc : Nat} {vc : Value} (hd : Dk wy wx.heap.size nc vc 0 ra) :
    Pr w0 px gd nn nc nb wx.heap.size xb xn vc vb vn ra rb F sp (wy.setCell ⟨gd, 0, none⟩ (.pointer (some ⟨nc, 0, none⟩))) := by
  have h1 := h.step hB
  have hg := grown_s wy gd 0 (.pointer (some ⟨nc, 0, none⟩))
  have C : Chg wy (wy.setCell ⟨gd, 0, none⟩ (.pointer (some ⟨nc, 0, none⟩))) (fun k => k = gd) := Chg.of_grown hg (fun k e => by injection e)
  have ne : ∀ {b : Nat} {t : TypeId} {cs' : Array Value}, Blk wy b t cs' → t ≠ 30 → ¬ (b = gd) := fun h3 h2 e => by subst e; exact Blk.ne_ h3 h1.bd h2 rfl
  have rn : ∀ {base n s : Nat} {e : TypeId} {v : Value} {xs : List Value}, wy.ownsRow base e s v n xs → e ≠ 30 → ∀ j, v.ownBlock = some j → ¬ (j = gd) := fun h3 h2 j hj e => by subst e; exact own_blk_ne h3 h1.bd h2 hj
  have sp := own_sep h.db hd (Nat.le_refl _)
  exact ⟨C.low h1.below (fun k hk => by have hk : k = gd := hk; rw [hk]; exact h.lo.2.1), ⟨h.lo.1, h.lo.2.1, h.lo.2.2.1, h.below.size, h.lo.2.2.2.2.1, h.lo.2.2.2.2.2⟩, Nat.le_trans h1.hn C.size, C.blk h1.bp (ne h1.bp (by decide)), by simpa using h1.bd.set_ 0 (.pointer (some ⟨nc, 0, none⟩)),
    hd.chg C (ne hd.d (by decide)) (rn hd.r (by decide)), h1.db.chg C (ne h1.db.d (by decide)) (rn h1.db.r (by decide)), sp.2, sp.1, h1.nt.chg C (ne h1.nt.d (by decide)) (rn h1.nt.r (by decide))⟩
theorem Pr.swapB (h : Pr w0 px gd nn na nb xa xb xn va vb vn ra rb F sp wx) (hB : Below wx.heap.size wx wy) {nc : Nat} {vc : Value} (hd : Dk wy wx.heap.size nc vc 1 rb) :
    Pr w0 px gd nn na nc xa wx.heap.size xn va vc vn ra rb F sp (wy.setCell ⟨gd, 1, none⟩ (.pointer (some ⟨nc, 0, none⟩))) := by
  have h1 := h.step hB
  have hg := grown_s wy gd 1 (.pointer (some ⟨nc, 0, none⟩))
  have C : Chg wy (wy.setCell ⟨gd, 1, none⟩ (.pointer (some ⟨nc, 0, none⟩))) (fun k => k = gd) := Chg.of_grown hg (fun k e => by injection e)
  have ne : ∀ {b : Nat} {t : TypeId} {cs' : Array Value}, Blk wy b t cs' → t ≠ 30 → ¬ (b = gd) := fun h3 h2 e => by subst e; exact Blk.ne_ h3 h1.bd h2 rfl
  have rn : ∀ {base n s : Nat} {e : TypeId} {v : Value} {xs : List Value}, wy.ownsRow base e s v n xs → e ≠ 30 → ∀ j, v.ownBlock = some j → ¬ (j = gd) := fun h3 h2 j hj e => by subst e; exact own_blk_ne h3 h1.bd h2 hj
  have sp := own_sep h.da hd (Nat.le_refl _)
  exact ⟨C.low h1.below (fun k hk => by have hk : k = gd := hk; rw [hk]; exact h.lo.2.1), ⟨h.lo.1, h.lo.2.1, h.lo.2.2.1, h.lo.2.2.2.1, h.below.size, h.lo.2.2.2.2.2⟩, Nat.le_trans h1.hn C.size, C.blk h1.bp (ne h1.bp (by decide)), by simpa using h1.bd.set_ 1 (.pointer (some ⟨nc, 0, none⟩)),
    h1.da.chg C (ne h1.da.d (by decide)) (rn h1.da.r (by decide)), hd.chg C (ne hd.d (by decide)) (rn hd.r (by decide)), sp.1, sp.2, h1.nt.chg C (ne h1.nt.d (by decide)) (rn h1.nt.r (by decide))⟩
end
end Go.Proofs.YtfofmbmmighdiaaDoor
