
/- Journal: small. -/
import Derived.Test.YtbefmjodpndndaaDoorJoF
import Derived.Test.YtbefmjodpndndaaDoorWireS
set_option linter.unusedSimpArgs false
set_option linter.unusedVariables false
namespace Go.Proofs.YtbefmjodpndndaaDoor
open Go.RowKit Go.IntWalk

/-- What Cut returns, and what the journal is then. -/
def CStep (s s' : DS) (jb : Int) (l : List ByteArray) (n : Int) (slot : Nat) (cv : Bs) (br : Bool) (ec : Int) (l' : List ByteArray) (slot' : Nat) (cv' : Bs) (br' : Bool) : Prop :=
  (br = true ∧ ec = 7 ∧ l' = l ∧ br' = true ∧ s' = s) ∨
  (br = false ∧ (n < 0 ∨ (l.length : Int) < n) ∧ ec = 1 ∧ l' = l ∧ br' = false ∧ s' = s ∧ slot' = slot ∧ cv' = cv) ∨
  (br = false ∧ n = (l.length : Int) ∧ ec = 0 ∧ l' = l ∧ br' = false ∧ s' = s ∧ slot' = slot ∧ cv' = cv) ∨
  (br = false ∧ 0 ≤ n ∧ n < (l.length : Int) ∧ AppR s s' jb l (l.take n.toNat) slot ec ∧ (ec = 0 → l' = l.take n.toNat ∧ br' = false ∧ slot' = nslot slot ∧ cv' = noteB (l.take n.toNat)) ∧ (ec ≠ 0 → l' = l ∧ br' = true))
def CutRes (w : World) (base jk b cb : Nat) (L : DL) (s : DS) (jb : Int) (v : Value) (l : List ByteArray) (n : Int) (slot : Nat) (cv : Bs) (br : Bool) (N : Nat) (e : Ending) (w' : World) : Prop :=
  ∃ (ec : Int) (L' : DL) (s' : DS) (v' : Value) (l' : List ByteArray) (slot' : Nat) (cv' : Bs) (u' br' : Bool), e = .returned (.int .i64 ec) ∧ CStep s s' jb l n slot cv br ec l' slot' cv' br' ∧ JRes w base jk b cb L jb v N L' s' v' l' slot' cv' u' br' w'
theorem LOwn.form1 {w : World} {base : Nat} {v : Value} {l : List ByteArray} (h : LOwn w base v l) (h0 : 0 < l.length) : ∃ g c, v = .slice (some ⟨g, 0, none⟩) l.length c ∧ l.length ≤ c ∧ c ≤ maxLen ∧ SlR w w.heap.size (some ⟨g, 0, none⟩) l := by
  obtain ⟨A, c, hv, h1, h2, h3⟩ := h.form
  rcases h.2 with h4 | ⟨g, cur, hv2, _⟩
  · obtain ⟨g, cap, cur, hv2, _⟩ := own_cell h4 h0
    rw [hv] at hv2
    injection hv2 with e1 _ _
    subst e1
    exact ⟨g, c, hv, h1, h2, h3⟩
  · rw [hv] at hv2
    injection hv2 with e1 _ _
    subst e1
    exact ⟨g, c, hv, h1, h2, h3⟩
theorem SlR.take1 {w : World} {B : Nat} {A : Option Addr} {l : List ByteArray} (h : SlR w B A l) (k : Nat) : SlR w B A (l.take k) := by
  intro j x hx
  rw [List.getElem?_take] at hx
  split at hx
  · exact h j x hx
  · cases hx
theorem form_pre (l : List ByteArray) (k : Nat) : formB l = formB (l.take k) ++ formB (l.drop k) := by rw [← form_app, List.take_append_drop]
set_option maxRecDepth 100000 in
set_option maxHeartbeats 16000000 in
theorem cut_any (base jk b cb : Nat) (L : DL) (s : DS) (jb : Int) (v : Value) (l : List ByteArray) (slot : Nat) (cv : Bs) (u br : Bool) (N : Nat) (n : Int) (w : World) (h : JM w base jk b cb L s jb v l slot cv u br N) (hg : br = false → JGood s jb l slot cv) (hj : 0 ≤ jb ∧ jb ≤ 14) (hn : I64 n) (hfl : (formB l).length ≤ 1048576) (hls : ∀ x ∈ l, x.size ≤ 2000000) (hll : l.length ≤ 1000000) (hN : N + 200 ≤ 50000000) (hbase : base ≤ w.heap.size) :
    Calls Tryd.prog 21 #[.pointer (some ⟨jk, 0, none⟩), .int .i64 n] w (CutRes w base jk b cb L s jb v l n slot cv br (N + 200)) := by
  have K0 := hid (JRes.start h)
  have HG0 := hid hg
  have HLS := hid hls
  have j5 := h.J.cell 5; have jl := h.J.lt
  simp at j5
  clear hg hls
  cases br with
  | true =>
    clear h
    go_enter Tryd.func21, Tryd.ntmps21
    go_wp2_with fail
    go_ret
    exact ⟨7, L, s, v, l, slot, cv, u, true, rfl, .inl ⟨rfl, rfl, rfl, rfl, rfl⟩, K0.out.mono (by omega)⟩
  | false =>
  obtain ⟨Al, cl, hvf, -, -, -⟩ := h.l.form
  have j3 := h.J.cell 3
  simp at j3
  rw [hvf] at j3
  have HVF := hid hvf
  by_cases h1 : n < 0
  · clear h hvf
    have HN := hid h1
    go_enter Tryd.func21, Tryd.ntmps21
    go_wp2_with fail
    go_ret
    exact ⟨1, L, s, v, l, slot, cv, u, false, rfl, .inr (.inl ⟨rfl, .inl HN.out, rfl, rfl, rfl, rfl, rfl, rfl⟩), K0.out.mono (by omega)⟩
  by_cases h2 : (l.length : Int) < n
  · clear h hvf
    have HN := hid h2
    go_enter Tryd.func21, Tryd.ntmps21
    go_wp2_with fail
    go_ret
    exact ⟨1, L, s, v, l, slot, cv, u, false, rfl, .inr (.inl ⟨rfl, .inr HN.out, rfl, rfl, rfl, rfl, rfl, rfl⟩), K0.out.mono (by omega)⟩
  by_cases h3 : n = (l.length : Int)
  · clear h hvf
    subst h3
    have h3b : ((l.length : Int) == (l.length : Int)) = true := by simp
    go_enter Tryd.func21, Tryd.ntmps21
    go_wp2_with fail
    go_ret
    exact ⟨0, L, s, v, l, slot, cv, u, false, rfl, .inr (.inr (.inl ⟨rfl, rfl, rfl, rfl, rfl, rfl, rfl, rfl⟩)), K0.out.mono (by omega)⟩
  obtain ⟨k, rfl⟩ := Int.eq_ofNat_of_zero_le (show 0 ≤ n by omega)
  have hk : k < l.length := by omega
  obtain ⟨g, c, hv1, hlc, hcm, hsl⟩ := h.l.form1 (by omega)
  have hA : Al = some ⟨g, 0, none⟩ ∧ cl = c := by rw [hvf] at hv1; injection hv1 with e1 e2 e3; exact ⟨e1, e3⟩
  obtain ⟨rfl, rfl⟩ := hA
  have htl : (l.take k).length = k := by rw [List.length_take]; omega
  have hfk := form_take_le l k
  have hcm2 : cl ≤ 9223372036854775807 := by unfold maxLen at hcm; omega
  have HF := form_any (some ⟨g, 0, none⟩) cl (l.take k) w (by rw [htl]; unfold maxLen; omega) (hsl.take1 k) h.E.env (by omega) (fun x hx => by have := HLS.out x (List.mem_of_mem_take hx); omega)
  rw [htl] at HF
  have HF := hid HF
  have HG := hid (HG0.out rfl)
  have hnb : encI ((formB (l.take k)).length : Nat) ++ encI (k : Nat) = noteB (l.take k) := by unfold noteB; rw [htl]
  obtain ⟨fk, hfke⟩ : ∃ fk, fk = formB (l.take k) := ⟨_, rfl⟩
  rw [← hfke] at HF hfk hnb
  have HNB := hid hnb
  have HFK := hid hfke
  have hfsz := bs_size fk
  have h3b : ((k : Int) == (l.length : Int)) = false := by rw [beq_eq_false_iff_ne]; exact h3
  have h4 : (k : Int) < (l.length : Int) := by omega
  have HLC := hid (And.intro hlc hcm)
  clear h hvf hv1 hsl hnb hfke HG0 htl h3 hn hcm
  go_enter Tryd.func21, Tryd.ntmps21
  go_upto_region 7 with fail
  clear j5 j3 jl
  have j3 := K0.out.M.J.cell 3; have jl := K0.out.M.J.lt
  simp at j3
  rw [HVF.out] at j3
  go_wp2_with fail
  refine HF.out.mono ?_
  rintro e w1 ⟨rfl, hB⟩
  have K1 := hid (K0.out.below hB)
  have hb1 := hid (Nat.le_trans hbase hB.size)
  clear hB HF K0 j3 jl
  have HCT := note_any base jk b cb L s jb v l slot cv u false N ((formB (l.take k)).length : Nat) (k : Nat) w1 K1.out.M HG.out.up hj HG.out.d2 HG.out.cell ⟨by omega, by rw [← HFK.out]; omega⟩ ⟨by omega, by omega⟩ (by omega) hb1.out
  rw [← HFK.out, HNB.out] at HCT
  have HCT := hid HCT
  go_wp2_with fail
  refine HCT.out.mono ?_
  rintro e w2 ⟨vv, rfl, ec, L2, s2, slot2, cv2, u2, rfl, hP, hnew, hM2, hC2, hl2⟩
  have K2 := hid (K1.out.note hM2 hC2 hl2)
  have HNEW := hid hnew
  have hhas : Has (s.fl jb).1 0 (formB (l.take k)) := by have := HG.out.log.has; rw [form_pre l k] at this; exact this.pre
  obtain ⟨q1, q2, q3⟩ := note_law HG.out.d1 HG.out.log hhas hP
  have Q1 := hid q1; have Q2 := hid q2; have Q3 := hid q3
  clear hP hnew hM2 hC2 hl2 q1 q2 q3 HCT hhas
  by_cases he : ec = 0
  case neg =>
    have he2 : ec ≠ 0 := he
    have heb2 : (ec != 0) = true := by simpa using he
    have K5 := hid (show JRes w base jk b cb L jb v (N + 120) L2 s2 v l slot2 cv2 u2 true w2 by have := K2.out; simpa [he] using this)
    have HAP := hid (show AppR s s2 jb l (l.take k) slot ec from ⟨fun h => absurd h he, Q2.out, Q3.out⟩)
    clear K1 K2
    go_wp2_with fail
    go_ret
    exact ⟨ec, L2, s2, v, l, slot2, cv2, u2, true, rfl, .inr (.inr (.inr ⟨rfl, by omega, by omega, by rw [Int.toNat_natCast]; exact HAP.out, fun h => absurd h he, fun _ => ⟨rfl, rfl⟩⟩)), K5.out.mono (by omega)⟩
  subst he
  have K5 := hid (show JRes w base jk b cb L jb v (N + 120) L2 s2 v l slot2 cv2 u2 false w2 by have := K2.out; simpa using this)
  have G4 := hid (Q1.out (by first | rfl | trivial))
  have HNW := hid (HNEW.out (by first | rfl | trivial))
  have C4 := hid (fun h => (Q3.out h).2)
  have j3 := K5.out.M.J.cell 3; have j4 := K5.out.M.J.cell 4; have jl := K5.out.M.J.lt; have jf := K5.out.M.J.frozen
  simp at j3 j4
  rw [HVF.out] at j3
  have hgs := hid (gr_tr (gr_set w2 jk 3 (.slice (some ⟨g, 0, none⟩) k k)) (gr_set (w2.setCell ⟨jk, 3, none⟩ (.slice (some ⟨g, 0, none⟩) k k)) jk 4 (.int .i64 (fk.length : Int))))
  have hlw := hid (show LOwn ((w2.setCell ⟨jk, 3, none⟩ (.slice (some ⟨g, 0, none⟩) k k)).setCell ⟨jk, 4, none⟩ (.int .i64 (fk.length : Int))) base (.slice (some ⟨g, 0, none⟩) k k) (l.take k) from by
    have h1 := LOwn.ofj K5.out.M hgs.out
    rw [HVF.out] at h1
    exact h1.cut (by omega))
  have K6 := hid (K5.out.own hgs.out (v2 := .slice (some ⟨g, 0, none⟩) k k) (l2 := l.take k) (br2 := false) (by rw [← HFK.out]; simpa using (K5.out.M.J.set_ 3 (.slice (some ⟨g, 0, none⟩) k k)).set_ 4 (.int .i64 (fk.length : Int))) hlw.out (fun q hq => .inl (by rw [HVF.out]; exact hq)))
  have HAP := hid (show AppR s s2 jb l (l.take k) slot 0 from ⟨fun _ => ⟨G4.out.1, fun g _ h => G4.out.2 g h⟩, fun h => absurd rfl h, fun h => ⟨rfl, C4.out h⟩⟩)
  clear K1 K2 K5 hgs hlw Q1 Q2 Q3 G4
  go_wp2_with fail
  go_ret
  exact ⟨0, L2, s2, _, l.take k, slot2, cv2, u2, false, rfl, .inr (.inr (.inr ⟨rfl, by omega, by omega, by rw [Int.toNat_natCast]; exact HAP.out, fun _ => ⟨by rw [Int.toNat_natCast], rfl, HNW.out.1, by rw [Int.toNat_natCast]; exact HNW.out.2⟩, fun h => absurd rfl h⟩)), K6.out.mono (by omega)⟩
end Go.Proofs.YtbefmjodpndndaaDoor
namespace Go.Proofs.YtbefmjodpndndaaDoor
open Go.RowKit Go.IntWalk

/-- copy of strings into a row just made. -/
theorem run_copyS (w : World) (ty : TypeId) (g n dCap : Nat) (A : Option Addr) (sCap : Nat) (cur : Array Value) (t : TypeId) (cs : List Value) (hg : w.heap[g]? = some (.cells cur t (0, 0))) (hn : cs.length = n * 1)
    (hsrc : 0 < n → ∃ a, A = some a ∧ ∀ j v, cs[j]? = some v → w.cell? (a.add j) = some v) (hfit : cs.length = cur.size) (h1 : ∀ v ∈ cs, v.oneCell' = true) :
    ∃ w', (Builtin.copy_ #[36, 36] ty #[.slice (some ⟨g, 0, none⟩) n dCap, .slice A n sCap]).run Tryd.prog w = .ok (goInt n) w' ∧ Blk w' g t cs.toArray ∧ w.grownBy w' (some g) := by
  obtain ⟨i0, hi, hz0, hz1, hz2⟩ := info_parts strRK.info
  have hz1 : i0.size = 1 := hz1
  have hi : Tryd.prog.info? 9 = some i0 := hi
  have hu := Tryd.underlying36
  rw [Nat.mul_one] at hn
  by_cases h0 : 0 < n
  · obtain ⟨a, rfl, hsr⟩ := hsrc h0
    have hl := run_loadCells_list (P := Tryd.prog) w a cs hsr
    have hst := run_storeCells_at Tryd.prog g 0 t cs 0 cur w hg (by simp; omega) h1
    have hcs : cur.toList.take 0 ++ cs ++ cur.toList.drop (0 + cs.length) = cs := by
      rw [List.take_zero, List.nil_append, Nat.zero_add, List.drop_of_length_le (by simp; omega), List.append_nil]
    have hst2 : (storeCells ⟨g, 0, none⟩ cs 0).run Tryd.prog w = .ok () (w.setRow g cs.toArray) := by
      have h9 := hst
      simp only [Nat.add_zero] at h9
      rw [hcs] at h9
      exact h9
    refine ⟨w.setRow g cs.toArray, ?_, setRow_heap w g cur cs.toArray t (0, 0) hg, ⟨rfl, rfl, rfl, by simp, fun k _ hk => setRow_other w g k _ (fun e => hk (by rw [e]))⟩⟩
    simp [Builtin.copy_, run_underlying hu, Builtin.lenOf, Builtin.firstCells, sizeOf, typeInfo, hi, hz1, ← hn, hl, hst2]
  · have hn0 : n = 0 := by omega
    subst hn0
    have hc0 : cs = [] := List.eq_nil_of_length_eq_zero (by omega)
    subst hc0
    have hcur : cur = #[] := by
      apply Array.eq_empty_of_size_eq_zero
      simpa using hfit.symm
    subst hcur
    refine ⟨w, ?_, hg, World.grownBy.refl _ _⟩
    cases A <;> simp [Builtin.copy_, run_underlying hu, Builtin.lenOf, Builtin.firstCells, sizeOf, typeInfo, hi, storeCells, loadCells, go_sem]
section
variable {ops : Array Oper} {rest : List Oper} {o : Oper} {a : Act} {Q : Exit → Act → World → Prop}
theorem wp_copyS (w : World) (hgd : o.guard = none) (d s : Operand) (ho : o.op = .call { callee := .builtin .copy, args := #[d, s], argTypes := #[36, 36] })
    (g n dCap : Nat) (A : Option Addr) (sCap : Nat) (cur : Array Value) (t : TypeId) (cs : List Value) (hd : a.eval d = .slice (some ⟨g, 0, none⟩) n dCap) (hs : a.eval s = .slice A n sCap) (hg : w.heap[g]? = some (.cells cur t (0, 0))) (hn : cs.length = n * 1)
    (hsrc : 0 < n → ∃ a, A = some a ∧ ∀ j v, cs[j]? = some v → w.cell? (a.add j) = some v) (hfit : cs.length = cur.size) (h1 : ∀ v ∈ cs, v.oneCell' = true)
    (h : ∀ w', Blk w' g t cs.toArray → w.grownBy w' (some g) → wpList Tryd.prog ops Q rest (a.put o.dst (goInt n)) w') : wpList Tryd.prog ops Q (o :: rest) a w := by
  refine wpList_plain hgd fun K hK => ?_
  obtain ⟨w', hr, h2, h3⟩ := run_copyS w o.type g n dCap A sCap cur t cs hg hn hsrc hfit h1
  unfold Oper.wp execOp
  simp only [ho, resolve, invoke, builtin, Sem.run_bind, Sem.run_pure, Result.andThen_ok, List.map_toArray, List.map_cons, List.map_nil, hd, hs, hr]
  exact hK _ _ (h w' h2 h3)
end
set_option maxRecDepth 100000 in
set_option maxHeartbeats 2000000 in
theorem all_any (base jk b cb : Nat) (jb : Int) (v : Value) (l : List ByteArray) (br : Bool) (w : World) (h : Jr w base jk b cb jb v l br) (hll : l.length ≤ 1000000) :
    Calls Tryd.prog 18 #[.pointer (some ⟨jk, 0, none⟩)] w fun e w' => ∃ g, e = .returned (.slice (some ⟨g, 0, none⟩) l.length l.length) ∧ w.heap.size ≤ g ∧ strRK.Own w' w.heap.size (.slice (some ⟨g, 0, none⟩) l.length l.length) l ∧ Below w.heap.size w w' := by
  obtain ⟨Al, cl, hvf, -, hcm, hsl⟩ := h.l.form
  obtain ⟨i0, hi, hz0, hz1, hz2⟩ := info_parts strRK.info
  have hz1 : i0.size = 1 := hz1
  have hz2 : i0.bytes = 16 := hz2
  have hi : Tryd.prog.info? 9 = some i0 := hi
  have hmk := fun W => run_make_rowN (P := Tryd.prog) 36 9 i0 _ Tryd.underlying36 hi hz0 .i64 .i64 l.length l.length (Nat.le_refl _) (by rw [hz2]; omega) (by omega) W
  rw [hz1] at hmk
  have j3 := h.j.cell 3; have jl := h.j.lt
  simp at j3
  rw [hvf] at j3
  have HJ := hid h
  have HSL := hid hsl
  have HVF := hid hvf
  have hcur := hid (size_madeCells strRK.z.cells (l.length * 1))
  have hcur2 := hid (show (madeCells strRK.z.cells (l.length * 1)).size = l.length * 1 from hcur.out)
  have hze : strRK.z.cells = #[Value.string { data := #[] }] := rfl
  rw [hze, Nat.mul_one] at hcur2
  simp only [hze, Nat.mul_one] at hmk
  clear h hvf hsl hi hz0 hz1 hz2 hcm hcur hze
  go_enter Tryd.func18, Tryd.ntmps18
  go_upto_region 2 with fail
  clear hmk
  generalize madeCells #[Value.string { data := #[] }] l.length = cur at *
  have N3 := hid (Blk.new w 9 cur)
  have b3' := hid ((Below.refl w.heap.size w).alloc (Nat.le_refl _) (Obj.cells cur 9))
  have J3 := hid (show Blk (w.alloc (Obj.cells cur 9)) jk 71 #[.pointer (some ⟨b, 0, none⟩), .int .i64 jb, .pointer (some ⟨cb, 0, none⟩), v, .int .i64 ((formB l).length : Nat), .bool br] from HJ.out.j.below b3'.out HJ.out.j.lt)
  have hsrc := hid (show 0 < l.length → ∃ a, Al = some a ∧ ∀ j v, (strRK.all l)[j]? = some v → (w.alloc (Obj.cells cur 9)).cell? (a.add j) = some v from fun h0 => by
    obtain ⟨b, off, rfl, _⟩ := strRK.elem HSL.out h0
    exact ⟨⟨b, off, none⟩, rfl, strRK.src (HSL.out.below b3'.out)⟩)
  have hfit := hid (show (strRK.all l).length = cur.size by rw [hcur2.out, str_all_len]; omega)
  obtain ⟨g, hgg⟩ : ∃ g, g = w.heap.size := ⟨_, rfl⟩
  have HGG := hid hgg
  rw [← hgg] at N3 ⊢
  clear hgg j3 jl
  generalize w.alloc (Obj.cells cur 9) = w3 at *
  have j3 := J3.out.cell 3; have jl := J3.out.lt
  simp at j3
  rw [HVF.out] at j3
  go_upto_region 3 with (refine wp_copyS _ rfl (.tmp 10) (.tmp 14) rfl g l.length l.length Al cl cur 9 (strRK.all l) rfl rfl N3.out (str_all_len l) hsrc.out hfit.out (strRK.all_oneC l) ?_; intro w4 hb4 hg4; have X4 := hid hb4; have G4 := hid hg4; clear hb4 hg4)
  clear j3 jl
  go_wp2_with fail
  go_ret
  refine ⟨g, rfl, by rw [HGG.out]; exact Nat.le_refl _, RK.Own.fresh X4.out (by rw [HGG.out]; exact Nat.le_refl _) (by unfold maxLen; omega), ?_⟩
  exact b3'.out.grown G4.out b3'.out.size (fun k e => by injection e with e; rw [← e, HGG.out]; exact Nat.le_refl _)
set_option maxRecDepth 100000 in
theorem len_any (base jk b cb : Nat) (jb : Int) (v : Value) (l : List ByteArray) (br : Bool) (w : World) (h : Jr w base jk b cb jb v l br) :
    Calls Tryd.prog 29 #[.pointer (some ⟨jk, 0, none⟩)] w fun e w' => e = .returned (.int .i64 (l.length : Int)) ∧ Below w.heap.size w w' := by
  obtain ⟨Al, cl, hvf, -, hcm, -⟩ := h.l.form
  have j3 := h.j.cell 3; have jl := h.j.lt
  simp at j3
  rw [hvf] at j3
  clear h hvf hcm
  go_enter Tryd.func29, Tryd.ntmps29
  go_wp2_with fail
  go_ret
  exact ⟨rfl, Below.refl _ _⟩
def getB (l : List ByteArray) (i : Int) : ByteArray := if i < 0 then { data := #[] } else l.getD i.toNat { data := #[] }
set_option maxRecDepth 100000 in
theorem get_any (base jk b cb : Nat) (jb : Int) (v : Value) (l : List ByteArray) (br : Bool) (i : Int) (w : World) (h : Jr w base jk b cb jb v l br) :
    Calls Tryd.prog 22 #[.pointer (some ⟨jk, 0, none⟩), .int .i64 i] w fun e w' => e = .returned (.string (getB l i)) ∧ Below w.heap.size w w' := by
  obtain ⟨Al, cl, hvf, -, hcm, hsl⟩ := h.l.form
  have j3 := h.j.cell 3; have jl := h.j.lt
  simp at j3
  rw [hvf] at j3
  have HSL := hid hsl
  clear h hvf hcm hsl
  by_cases h0 : i < 0
  · have e1 : getB l i = { data := #[] } := by unfold getB; exact if_pos h0
    rw [e1]
    clear e1
    go_enter Tryd.func22, Tryd.ntmps22
    go_wp2_with fail
    go_ret
    exact ⟨rfl, Below.refl _ _⟩
  by_cases h1 : (l.length : Int) ≤ i
  · have e1 : getB l i = { data := #[] } := by
      unfold getB
      rw [if_neg h0, List.getD_eq_getElem?_getD, List.getElem?_eq_none_iff.2 (by omega)]
      rfl
    rw [e1]
    clear e1
    go_enter Tryd.func22, Tryd.ntmps22
    go_wp2_with fail
    go_ret
    exact ⟨rfl, Below.refl _ _⟩
  obtain ⟨k, rfl⟩ := Int.eq_ofNat_of_zero_le (show 0 ≤ i by omega)
  have hk : k < l.length := by omega
  obtain ⟨b2, off, rfl, -, hcl, -⟩ := strRK.elem HSL.out hk
  have hc0 := hcl 0 (by show 0 < 1; omega)
  have e1 : getB l (k : Int) = l[k] := by
    unfold getB
    rw [if_neg h0, Int.toNat_natCast, List.getD_eq_getElem?_getD, List.getElem?_eq_getElem hk]
    rfl
  rw [e1]
  have hc1 : w.cell? ⟨b2, off + k, none⟩ = some (.string l[k]) := by
    have e2 : off + k * strRK.size + 0 = off + k := by show off + k * 1 + 0 = off + k; omega
    rw [e2] at hc0
    rw [hc0]
    rfl
  generalize l[k] = x at *
  clear e1 hc0 hcl hk
  go_enter Tryd.func22, Tryd.ntmps22
  go_wp2_with fail
  go_ret
  exact ⟨rfl, Below.refl _ _⟩
end Go.Proofs.YtbefmjodpndndaaDoor
namespace Go.Proofs.YtbefmjodpndndaaDoor
open Go.RowKit Go.IntWalk

def textsL (l : List ByteArray) : Bool := l.all (fun s => decide (s.size ≤ 200)) && decide (l.length ≤ 8)
theorem textsL_iff {l : List ByteArray} : textsL l = true ↔ (∀ s ∈ l, s.size ≤ 200) ∧ l.length ≤ 8 := by
  simp [textsL, List.all_eq_true]
set_option maxRecDepth 100000 in
set_option maxHeartbeats 1000000 in
theorem texts_any (A : Option Addr) (c : Nat) (l : List ByteArray) (w : World) (hl : l.length ≤ maxLen) (hs : SlR w w.heap.size A l) :
    Calls Tryd.prog 19 #[.slice A l.length c] w fun e w' => e = .returned (.bool (textsL l)) ∧ w = w' := by
  unfold maxLen at hl
  have HS := hid hs
  clear hs
  go_enter Tryd.func19, Tryd.ntmps19
  go_wp2_with fail
  go_loop [3] (fun i => ∃ k : Nat, k ≤ l.length ∧ i = .int .i64 k ∧ Hid ((l.take k).all (fun s => decide (s.size ≤ 200)) = true)) (fun i => l.length - (intOf i).toNat)
  case atStart => exact ⟨0, by omega, rfl, by simp [Hid]⟩
  case round =>
    obtain ⟨k, hk, rfl, hall⟩ := hrel
    by_cases hlt : k < l.length
    · obtain ⟨b, off, rfl, hb, hcl⟩ := HS.out.str hlt
      have hst := hid (show l[k].size ≤ 200 → (l.take (k + 1)).all (fun s => decide (s.size ≤ 200)) = true from fun h => by
        rw [List.take_add_one, List.getElem?_eq_getElem hlt, List.all_append, hall.out]; simp [h])
      have hno := hid (show ¬ l[k].size ≤ 200 → textsL l = false from fun h => by
        unfold textsL
        rw [show l.all (fun s => decide (s.size ≤ 200)) = false by rw [List.all_eq_false]; exact ⟨l[k], List.getElem_mem hlt, by simp; omega⟩]
        rfl)
      have hlt' : (k : Int) < l.length := by omega
      generalize l[k] = o at *
      by_cases h1 : o.size ≤ 200
      · have hr := hid (hst.out h1)
        have h1I : ¬ (200 : Int) < (o.size : Int) := by omega
        clear hall h1
        go_wp2_with fail
        go_round
        case rel => exact ⟨k + 1, by omega, by go_num, hr⟩
        case measure => simp [intOf]; omega
      · have hr := hid (hno.out h1)
        have h1I : (200 : Int) < (o.size : Int) := by omega
        clear h1
        go_wp2_with fail
        go_ret
        exact ⟨ret_bool hr.out.symm, rfl⟩
    · obtain rfl : k = l.length := by omega
      rw [List.take_length] at hall
      have hr := hid (show textsL l = decide ((l.length : Int) ≤ 8) by unfold textsL; rw [hall.out, Bool.true_and]; congr 1; exact propext ⟨fun h => by omega, fun h => by omega⟩)
      go_wp2_with fail
      go_ret
      exact ⟨ret_bool hr.out.symm, rfl⟩
/-- An operation of the laws: kind, strings, a number, sectors. -/
abbrev Jop := Int × (List ByteArray × (Int × List Int))
theorem jop_rep {w : World} {B : Nat} {es : List Value} {o : Jop} (h : Rep.rep w B es o) : ∃ A c A2 d, es = [.int .i64 o.1, .slice A o.2.1.length c, .int .i64 o.2.2.1, .slice A2 o.2.2.2.length d] ∧ I64 o.1 ∧ I64 o.2.2.1 ∧ o.2.1.length ≤ maxLen ∧ o.2.2.2.length ≤ maxLen ∧ SlR w B A o.2.1 ∧ SlR w B A2 o.2.2.2 := by
  obtain ⟨e1, e2, rfl, _, _, ⟨rfl, h1⟩, e3, e4, rfl, _, _, ⟨A, c, rfl, hc1, hc2, hs1⟩, e5, e6, rfl, _, _, ⟨rfl, h2⟩, A2, d, rfl, hd1, hd2, hs2⟩ := h
  exact ⟨A, c, A2, d, rfl, h1, h2, Nat.le_trans hc1 hc2, Nat.le_trans hd1 hd2, hs1, hs2⟩
theorem SlR.jop {w : World} {B : Nat} {A : Option Addr} {l : List Jop} (h : SlR w B A l) {k : Nat} (hk : k < l.length) : ∃ b off A1 c A2 d, A = some ⟨b, off, none⟩ ∧ b < B ∧
    w.cell? ⟨b, off + k * 4, none⟩ = some (.int .i64 l[k].1) ∧ w.cell? ⟨b, off + k * 4 + 1, none⟩ = some (.slice A1 l[k].2.1.length c) ∧ w.cell? ⟨b, off + k * 4 + 2, none⟩ = some (.int .i64 l[k].2.2.1) ∧ w.cell? ⟨b, off + k * 4 + 3, none⟩ = some (.slice A2 l[k].2.2.2.length d) ∧
    I64 l[k].1 ∧ I64 l[k].2.2.1 ∧ l[k].2.1.length ≤ maxLen ∧ l[k].2.2.2.length ≤ maxLen ∧ SlR w B A1 l[k].2.1 ∧ SlR w B A2 l[k].2.2.2 := by
  obtain ⟨b, off, es, hA, hb, hs, hc, hr⟩ := h k _ (List.getElem?_eq_getElem hk)
  obtain ⟨A1, c, A2, d, rfl, h1, h2, h3, h4, h5, h6⟩ := jop_rep hr
  have hz : Rep.size Jop = 4 := rfl
  rw [hz] at hc
  exact ⟨b, off, A1, c, A2, d, hA, hb, hc 0 _ rfl, hc 1 _ rfl, hc 2 _ rfl, hc 3 _ rfl, h1, h2, h3, h4, h5, h6⟩
def fewO (o : Jop) : Bool := textsL o.2.1 && decide (o.2.2.2.length ≤ 50)
def fewJ (l : List Jop) : Bool := l.all fewO && decide (l.length ≤ 25)
theorem fewJ_iff {l : List Jop} : fewJ l = true ↔ (∀ o ∈ l, textsL o.2.1 = true ∧ o.2.2.2.length ≤ 50) ∧ l.length ≤ 25 := by
  simp [fewJ, fewO, List.all_eq_true]
set_option maxRecDepth 100000 in
set_option maxHeartbeats 2000000 in
theorem fewJ_any (A : Option Addr) (c : Nat) (l : List Jop) (w : World) (hl : l.length ≤ maxLen) (hs : SlR w w.heap.size A l) :
    Calls Tryd.prog 23 #[.slice A l.length c] w fun e w' => e = .returned (.bool (fewJ l)) ∧ w = w' := by
  unfold maxLen at hl
  have HS := hid hs
  clear hs
  go_enter Tryd.func23, Tryd.ntmps23
  go_wp2_with fail
  go_loop [3] (fun i => ∃ k : Nat, k ≤ l.length ∧ i = .int .i64 k ∧ Hid ((l.take k).all fewO = true)) (fun i => l.length - (intOf i).toNat)
  case atStart => exact ⟨0, by omega, rfl, by simp [Hid]⟩
  case round =>
    obtain ⟨k, hk, rfl, hall⟩ := hrel
    by_cases hlt : k < l.length
    · obtain ⟨b, off, A1, c1, A2, d2, rfl, hb, -, g1, -, g3, -, -, m1, m2, s1, -⟩ := HS.out.jop hlt
      have hst := hid (show fewO l[k] = true → (l.take (k + 1)).all fewO = true from fun h => by
        rw [List.take_add_one, List.getElem?_eq_getElem hlt, List.all_append, hall.out]; simp [h])
      have hno := hid (show fewO l[k] = false → fewJ l = false from fun h => by
        unfold fewJ
        rw [show l.all fewO = false by rw [List.all_eq_false]; exact ⟨l[k], List.getElem_mem hlt, by simp [h]⟩]
        rfl)
      have hlt' : (k : Int) < l.length := by omega
      have HT := hid (texts_any A1 c1 l[k].2.1 w m1 s1)
      have hfo : fewO l[k] = (textsL l[k].2.1 && decide (l[k].2.2.2.length ≤ 50)) := rfl
      have HFO := hid hfo
      generalize l[k] = o at *
      obtain ⟨r, hr⟩ : ∃ r, r = textsL o.2.1 := ⟨_, rfl⟩
      rw [← hr] at HT HFO
      clear hfo m1 s1 hr
      unfold maxLen at m2
      cases r with
      | false =>
        have hr := hid (hno.out (by rw [HFO.out]; rfl))
        go_wp2_with fail
        refine HT.out.mono ?_
        rintro e w2 ⟨rfl, rfl⟩
        go_wp2_with fail
        go_ret
        exact ⟨ret_bool hr.out.symm, rfl⟩
      | true =>
        by_cases h1 : o.2.2.2.length ≤ 50
        · have hr := hid (hst.out (by rw [HFO.out]; simp [h1]))
          have h1I : ¬ (50 : Int) < (o.2.2.2.length : Int) := by omega
          clear hall h1
          go_wp2_with fail
          refine HT.out.mono ?_
          rintro e w2 ⟨rfl, rfl⟩
          go_wp2_with fail
          go_round
          case rel => exact ⟨k + 1, by omega, by go_num, hr⟩
          case measure => simp [intOf]; omega
        · have hr := hid (hno.out (by rw [HFO.out]; simp; omega))
          have h1I : (50 : Int) < (o.2.2.2.length : Int) := by omega
          clear h1
          go_wp2_with fail
          refine HT.out.mono ?_
          rintro e w2 ⟨rfl, rfl⟩
          go_wp2_with fail
          go_ret
          exact ⟨ret_bool hr.out.symm, rfl⟩
    · obtain rfl : k = l.length := by omega
      rw [List.take_length] at hall
      have hr := hid (show fewJ l = decide ((l.length : Int) ≤ 25) by unfold fewJ; rw [hall.out, Bool.true_and]; congr 1; exact propext ⟨fun h => by omega, fun h => by omega⟩)
      go_wp2_with fail
      go_ret
      exact ⟨ret_bool hr.out.symm, rfl⟩
def diskyB (e : Int) : Bool := decide (e = 9) || decide (e = 10)
set_option maxRecDepth 100000 in
theorem disky_any (e : Int) (w : World) : Calls Tryd.prog 28 #[.int .i64 e] w fun r w' => r = .returned (.bool (diskyB e)) ∧ w = w' := by
  unfold diskyB
  by_cases h1 : e = 9
  · subst h1
    go_enter Tryd.func28, Tryd.ntmps28
    go_wp2_with fail
    go_ret
    exact ⟨rfl, rfl⟩
  · have h2 : (e == 9) = false := by simpa using h1
    rw [decide_eq_false h1, Bool.false_or]
    go_enter Tryd.func28, Tryd.ntmps28
    go_wp2_with fail
    go_ret
    exact ⟨ret_bool (by first | rfl | simp), rfl⟩
end Go.Proofs.YtbefmjodpndndaaDoor
namespace Go.Proofs.YtbefmjodpndndaaDoor
open Go.RowKit Go.IntWalk

/-- At most m strings of at most 200 bytes. -/
def Bd (m : Nat) (l : List ByteArray) : Prop := l.length ≤ m ∧ ∀ s ∈ l, s.size ≤ 200
theorem Bd.mono {m n : Nat} {l : List ByteArray} (h : Bd m l) (hn : m ≤ n) : Bd n l := ⟨Nat.le_trans h.1 hn, h.2⟩
theorem Bd.nil (m : Nat) : Bd m [] := ⟨by simp, by simp⟩
theorem Bd.app {m n : Nat} {a b : List ByteArray} (h : Bd m a) (h' : Bd n b) : Bd (m + n) (a ++ b) := ⟨by rw [List.length_append]; exact Nat.add_le_add h.1 h'.1, fun s hs => (List.mem_append.1 hs).elim (h.2 s) (h'.2 s)⟩
theorem Bd.take {m : Nat} {l : List ByteArray} (h : Bd m l) (k : Nat) : Bd m (l.take k) := ⟨by rw [List.length_take]; have := h.1; omega, fun s hs => h.2 s (List.mem_of_mem_take hs)⟩
theorem encT_len (t : Bs) (h : t.length ≤ 2000000) : (encT t).length ≤ t.length + 25 := by
  have h4 := Lib.itoa_length_le (t.length : Int) (by omega) (by omega)
  simp only [encT, List.length_append, List.length_cons, List.length_nil] at *
  omega
theorem form_len (k : Nat) (hk : k ≤ 2000000) : ∀ (l : List ByteArray), (∀ s ∈ l, s.size ≤ k) → (formB l).length ≤ (k + 25) * l.length
  | [], _ => by simp [formB]
  | s :: l, h => by
    have h1 := form_len k hk l (fun x hx => h x (List.mem_cons_of_mem _ hx))
    have h2 := h s (List.mem_cons_self ..)
    have h3 := encT_len s.data.toList (by rw [← size_list]; omega)
    rw [← size_list] at h3
    have e : formB (s :: l) = encT s.data.toList ++ formB l := by simp [formB]
    rw [e, List.length_append, List.length_cons, Nat.mul_add]
    omega
theorem Bd.form {m : Nat} {l : List ByteArray} (h : Bd m l) : (formB l).length ≤ 225 * m := Nat.le_trans (form_len 200 (by omega) l h.2) (Nat.mul_le_mul_left _ h.1)
theorem str_map (l : List ByteArray) : strRK.all l = l.map Value.string := by
  induction l with
  | nil => rfl
  | cons x l ih =>
    have e : strRK.all (x :: l) = strRK.cs x ++ strRK.all l := by simp [RK.all]
    rw [e, ih]
    rfl
/-- A slice just built. -/
theorem slr_new (w : World) (l : List ByteArray) (h : ∀ x ∈ l, x.size ≤ maxLen) : SlR (w.alloc (Obj.cells (l.map Value.string).toArray 9)) (w.alloc (Obj.cells (l.map Value.string).toArray 9)).heap.size (some ⟨w.heap.size, 0, none⟩) l := by
  have := strRK.blk (l := l) (Blk.new w 9 (strRK.all l).toArray) h
  rw [str_map] at this
  exact this
theorem safe_new (jb : Int) : Safe ds0 jb (fun l => l = []) := fun cl cc h1 h2 => by
  refine ⟨[], rfl, 0, [], .inl ⟨rfl, rfl, ?_⟩, .inl ⟨rfl, rfl⟩⟩
  have : cc = [] := poss_dur (s := ds0) (f := jb + 1) rfl h2
  rw [this]; rfl
theorem calm_new : Calm ds0 := ⟨rfl, rfl, rfl⟩
/-- How Open ends, where the files say one of some lists. -/
def OsRes (w : World) (base b : Nat) (L : DL) (s : DS) (jb : Int) (Ls : List ByteArray → Prop) (N : Nat) (e : Ending) (w' : World) : Prop :=
  ∃ (L' : DL) (s' : DS), Dsk w' base b L' s' N ∧ Chg w w' (DFP b L) ∧ (∀ k, DFP b L' k → DFP b L k ∨ w.heap.size ≤ k) ∧ Shr s s' ∧
    ((∃ ec : Int, (ec = 9 ∨ ec = 10) ∧ ¬ Calm s ∧ e = .returned (.tuple #[.pointer none, .int .i64 ec])) ∨
     (∃ (jk cb : Nat) (lv : Value) (l : List ByteArray) (slot : Nat) (cv : Bs), Ls l ∧ e = .returned (.tuple #[.pointer (some ⟨jk, 0, none⟩), .int .i64 0]) ∧ w.heap.size ≤ jk ∧ w.heap.size ≤ cb ∧ (∀ g, lv.ownBlock = some g → w.heap.size ≤ g) ∧
        JM w' base jk b cb L' s' jb lv l slot cv false false N ∧ JGood s' jb l slot cv ∧ (Calm s → Calm s') ∧ ∀ f, (s'.fl f).1 = (s.fl f).1))
theorem jopen_safe (b base : Nat) (L : DL) (s : DS) (N : Nat) (jb : Int) (Ls : List ByteArray → Prop) (w : World) (h : Dsk w base b L s N) (he : EB base w) (hd : s.down = false) (hj0 : 0 ≤ jb) (hj1 : jb ≤ 14) (hS : Safe s jb Ls) (hLs : ∀ l, Ls l → Bd 10000 l) (hN : N + 2 ≤ 50000000) (hbase : base ≤ w.heap.size) :
    Calls Tryd.prog 11 #[.pointer (some ⟨b, 0, none⟩), .int .i64 jb] w (OsRes w base b L s jb Ls (N + 2)) := by
  obtain ⟨l, hl, slot, cv, hcs, hls⟩ := hS (s.fl jb).1 (s.fl (jb + 1)).1 (.inl rfl) (.inl rfl)
  have hb := hLs l hl
  have hf := hb.form
  obtain ⟨r, hr1, hr2⟩ := open_says hls (fun x hx => by have := hb.2 x hx; rw [← size_list]; omega) (by omega) (by have := hb.1; omega)
  refine (jopen_any b base L s N jb slot cv w h he hd hj0 hj1 hcs hN hbase).mono ?_
  rintro e w' ⟨L', s', hD, hC, hlo, hsh, hres⟩
  refine ⟨L', s', hD, hC, hlo, hsh, ?_⟩
  rcases hres with h1 | ⟨hk, hm⟩
  · exact .inl h1
  · rw [hr1] at hm
    obtain ⟨jk, cb, lv, rfl, a1, a2, a3, hJ, hX⟩ := hm
    rw [hr2] at hJ
    have f1 : s'.fl jb = ((s.fl jb).1, (s.fl jb).1) := by rw [hk.2.2.2]; exact if_pos (.inl ⟨rfl, by omega⟩)
    have f2 : s'.fl (jb + 1) = ((s.fl (jb + 1)).1, (s.fl (jb + 1)).1) := by rw [hk.2.2.2]; exact if_pos (.inr ⟨rfl, by omega⟩)
    refine .inr ⟨jk, cb, lv, l, slot, cv, hl, rfl, a1, a2, a3, ⟨hD, hX, hJ.j, hJ.l, Nat.le_trans hbase a1, Nat.le_trans hbase a2, he.dsk h hC⟩, ⟨hk.1, by rw [f1], by rw [f2], by rw [f2]; exact hcs, by rw [f1]; exact hls⟩, hk.2.2.1, hk.now⟩
/-- A journal on a disk where nothing is lost. -/
def JC (w : World) (base jk b cb : Nat) (L : DL) (s : DS) (jb : Int) (v : Value) (l : List ByteArray) (N : Nat) : Prop :=
  ∃ slot cv u, JM w base jk b cb L s jb v l slot cv u false N ∧ JGood s jb l slot cv ∧ Calm s
/-- A call on it. -/
def JCRes (w : World) (base jk b cb : Nat) (L : DL) (s : DS) (jb : Int) (v : Value) (l' : List ByteArray) (N : Nat) (ec : Int) (e : Ending) (w' : World) : Prop :=
  ∃ (L' : DL) (s' : DS) (v' : Value), e = .returned (.int .i64 ec) ∧ JC w' base jk b cb L' s' jb v' l' N ∧ Chg w w' (JF b cb jk L v) ∧ (∀ k, DFP b L' k → DFP b L k ∨ w.heap.size ≤ k) ∧ (∀ k, v'.ownBlock = some k → v.ownBlock = some k ∨ w.heap.size ≤ k) ∧ ∀ g, g ≠ jb → g ≠ jb + 1 → s'.fl g = s.fl g
theorem JC.jr {w : World} {base jk b cb : Nat} {L : DL} {s : DS} {jb : Int} {v : Value} {l : List ByteArray} {N : Nat} (h : JC w base jk b cb L s jb v l N) : Jr w base jk b cb jb v l false := by
  obtain ⟨_, _, _, h, _, _⟩ := h
  exact ⟨h.J, h.l⟩
theorem JC.below {w w' : World} {base jk b cb : Nat} {L : DL} {s : DS} {jb : Int} {v : Value} {l : List ByteArray} {N : Nat} (h : JC w base jk b cb L s jb v l N) (hb : Below w.heap.size w w') : JC w' base jk b cb L s jb v l N := by
  obtain ⟨a, c, d, h, h2⟩ := h
  exact ⟨a, c, d, h.below hb, h2⟩
theorem JC.base_ {w : World} {base jk b cb : Nat} {L : DL} {s : DS} {jb : Int} {v : Value} {l : List ByteArray} {N : Nat} (h : JC w base jk b cb L s jb v l N) {k : Nat} (hk : JF b cb jk L v k) : base ≤ k ∧ k < w.heap.size := by
  obtain ⟨a, c, d, h, h2⟩ := h
  exact h.base_ hk
theorem JC.mono {w : World} {base jk b cb : Nat} {L : DL} {s : DS} {jb : Int} {v : Value} {l : List ByteArray} {N N' : Nat} (h : JC w base jk b cb L s jb v l N) (hN : N ≤ N') : JC w base jk b cb L s jb v l N' := by
  obtain ⟨a, c, d, h, h2⟩ := h
  exact ⟨a, c, d, h.mono hN, h2⟩
theorem capp_any (base jk b cb : Nat) (L : DL) (s : DS) (jb : Int) (v : Value) (l : List ByteArray) (N : Nat) (A : Option Addr) (c : Nat) (ys : List ByteArray) (w : World) (h : JC w base jk b cb L s jb v l N) (hj : 0 ≤ jb ∧ jb ≤ 14) (hs : SlR w w.heap.size A ys) (hA : ∀ ad, A = some ad → 0 < ys.length → ¬ JF b cb jk L v ad.block) (hl : Bd 1000 l) (hy : Bd 1000 ys) (hN : N + 460000 ≤ 50000000) (hbase : base ≤ w.heap.size) :
    Calls Tryd.prog 20 #[.pointer (some ⟨jk, 0, none⟩), .slice A ys.length c] w (JCRes w base jk b cb L s jb v (l ++ ys) (N + 2 * (formB ys).length + 200) 0) := by
  obtain ⟨slot, cv, u, hM, hG, hC⟩ := h
  have f1 := hl.form
  have f2 := hy.form
  refine (append_any base jk b cb L s jb v l slot cv u false N A c ys w hM (fun _ => hG) hj hs hA (fun x hx => by have := hy.2 x hx; omega) (by omega) (by omega) (by have := hy.1; omega) (by have := hl.1; omega) (by omega) hbase).mono ?_
  rintro e w' ⟨ec, L', s', v', l', slot', cv', u', br', rfl, hst, hR⟩
  rcases hst with ⟨h, _⟩ | ⟨-, h1, rfl, rfl, rfl, rfl, rfl, rfl⟩ | ⟨-, -, h1, _⟩ | ⟨-, h1, h2, hap, h3, h4⟩
  · cases h
  · subst h1
    exact ⟨L', s', v', rfl, ⟨_, _, _, by rw [List.append_nil]; exact hR.M, by rw [List.append_nil]; exact hG, hC⟩, hR.C, hR.lo, hR.lv, fun _ _ _ => rfl⟩
  · omega
  · obtain ⟨rfl, hC'⟩ := hap.calm hC
    obtain ⟨rfl, rfl, rfl, rfl⟩ := h3 rfl
    obtain ⟨g1, g2⟩ := hap.ok rfl
    exact ⟨L', s', v', rfl, ⟨_, _, _, hR.M, g1, hC'⟩, hR.C, hR.lo, hR.lv, g2⟩
theorem ccut_any (base jk b cb : Nat) (L : DL) (s : DS) (jb : Int) (v : Value) (l : List ByteArray) (N : Nat) (n : Int) (w : World) (h : JC w base jk b cb L s jb v l N) (hj : 0 ≤ jb ∧ jb ≤ 14) (hn : I64 n) (hl : Bd 1000 l) (hN : N + 200 ≤ 50000000) (hbase : base ≤ w.heap.size) :
    Calls Tryd.prog 21 #[.pointer (some ⟨jk, 0, none⟩), .int .i64 n] w (JCRes w base jk b cb L s jb v (if 0 ≤ n ∧ n ≤ (l.length : Int) then l.take n.toNat else l) (N + 200) (if 0 ≤ n ∧ n ≤ (l.length : Int) then 0 else 1)) := by
  obtain ⟨slot, cv, u, hM, hG, hC⟩ := h
  have f1 := hl.form
  refine (cut_any base jk b cb L s jb v l slot cv u false N n w hM (fun _ => hG) hj hn (by omega) (fun x hx => by have := hl.2 x hx; omega) (by have := hl.1; omega) hN hbase).mono ?_
  rintro e w' ⟨ec, L', s', v', l', slot', cv', u', br', rfl, hst, hR⟩
  rcases hst with ⟨h, _⟩ | ⟨-, h1, rfl, rfl, rfl, rfl, rfl, rfl⟩ | ⟨-, h1, rfl, rfl, rfl, rfl, rfl, rfl⟩ | ⟨-, h1, h2, hap, h3, h4⟩
  · cases h
  · rw [if_neg (by omega), if_neg (by omega)]
    exact ⟨L', s', v', rfl, ⟨_, _, _, hR.M, hG, hC⟩, hR.C, hR.lo, hR.lv, fun _ _ _ => rfl⟩
  · rw [if_pos (by omega), if_pos (by omega), h1, Int.toNat_natCast, List.take_length]
    exact ⟨L', s', v', rfl, ⟨_, _, _, hR.M, hG, hC⟩, hR.C, hR.lo, hR.lv, fun _ _ _ => rfl⟩
  · rw [if_pos (by omega), if_pos (by omega)]
    obtain ⟨rfl, hC'⟩ := hap.calm hC
    obtain ⟨rfl, rfl, rfl, rfl⟩ := h3 rfl
    obtain ⟨g1, g2⟩ := hap.ok rfl
    exact ⟨L', s', v', rfl, ⟨_, _, _, hR.M, g1, hC'⟩, hR.C, hR.lo, hR.lv, g2⟩
end Go.Proofs.YtbefmjodpndndaaDoor
namespace Go.Proofs.YtbefmjodpndndaaDoor
open Go.RowKit Go.IntWalk

set_option maxRecDepth 100000 in
set_option maxHeartbeats 1600000 in
theorem jsmall_any (w : World) (he : Env w) (hO : OffE w) : Calls Tryd.prog 7 #[] w fun e w' => e = .returned (.bool true) ∧ Below w.heap.size w w' := by
  have HE := hid (EB.of he hO)
  clear he hO
  go_enter Tryd.func7, Tryd.ntmps7
  go_wp2_with fail
  refine (dnew_any w).mono ?_
  rintro e w1 ⟨b, L0, rfl, hD, hB⟩
  have B1 := hid hB
  have HOP := hid (jopen_safe b w.heap.size L0 ds0 0 3 (fun l => l = []) w1 hD (HE.out.below hB) rfl (by omega) (by omega) (safe_new 3) (fun l h => by rw [h]; exact Bd.nil _) (by omega) hB.size)
  have HDB := hid (fun (k : Nat) (hk : DFP b L0 k) => (hD.lt hk).1)
  clear hD hB
  go_wp2_with fail
  refine HOP.out.mono ?_
  rintro e w2 ⟨L2, s2, hD, hC, hlo, hsh, hres⟩
  have B2 := hid (hC.low B1.out HDB.out)
  rcases hres with ⟨ec, _, h, _⟩ | ⟨jk, cb, v2, l, slot, cv, hl, rfl, _, _, _, hM, hG, hcm, -⟩
  · exact absurd calm_new h
  subst hl
  have K2 := hid (show JC w2 w.heap.size jk b cb L2 s2 3 v2 [] 2 from ⟨_, _, _, hM, hG, hcm calm_new⟩)
  obtain ⟨N2, hN2⟩ : ∃ n, n = 2 := ⟨_, rfl⟩
  rw [← hN2] at K2
  have hb2 : N2 ≤ 30000 := by omega
  clear hD hC hlo hsh hM hG hcm HOP B1 HDB hN2
  have HLN := hid (len_any _ jk b cb 3 v2 [] false w2 K2.out.jr)
  go_wp2_with fail
  refine HLN.out.mono ?_
  rintro e w3 ⟨rfl, hB⟩
  have K3 := hid (K2.out.below hB)
  have B3 := hid (B2.out.trans (hB.mono B2.out.size))
  obtain ⟨L3, hL3⟩ : ∃ x, x = L2 := ⟨_, rfl⟩
  obtain ⟨s3, hs3⟩ : ∃ x, x = s2 := ⟨_, rfl⟩
  obtain ⟨v3, hv3⟩ : ∃ x, x = v2 := ⟨_, rfl⟩
  obtain ⟨N3, hN3⟩ : ∃ x, x = N2 := ⟨_, rfl⟩
  rw [← hL3, ← hs3, ← hv3, ← hN3] at K3
  have hb3 : N3 ≤ 40000 := by omega
  clear hB K2 B2 HLN hL3 hs3 hv3 hN3
  have BA4 := hid (show Below w3.heap.size w3 (w3.alloc (Obj.cells #[Value.string ⟨#[97]⟩, Value.string ⟨#[98, 99]⟩] 9)) by (repeat (first | exact Below.refl _ _ | assumption | refine below_drewN ?_ _ | refine Below.drew ?_ | refine Below.alloc ?_ (by (try simp); (try omega)) _ | refine Below.setCell ?_ (by (try simp); (try omega)) _)))
  have SA4 := hid (show SlR (w3.alloc (Obj.cells #[Value.string ⟨#[97]⟩, Value.string ⟨#[98, 99]⟩] 9)) (w3.alloc (Obj.cells #[Value.string ⟨#[97]⟩, Value.string ⟨#[98, 99]⟩] 9)).heap.size (some ⟨w3.heap.size, 0, none⟩) ([⟨#[97]⟩, ⟨#[98, 99]⟩] : List ByteArray) from slr_new w3 [⟨#[97]⟩, ⟨#[98, 99]⟩] (by decide))
  have HA4 := hid (capp_any w.heap.size jk b cb L3 s3 3 v3 [] N3 (some ⟨w3.heap.size, 0, none⟩) 2 [⟨#[97]⟩, ⟨#[98, 99]⟩] (w3.alloc (Obj.cells #[Value.string ⟨#[97]⟩, Value.string ⟨#[98, 99]⟩] 9)) (K3.out.below BA4.out) ⟨by omega, by omega⟩ SA4.out (fun ad h _ e => by injection h with h; subst h; have := (K3.out.base_ e).2; simp at this) ⟨by decide, by decide⟩ ⟨by decide, by decide⟩ (by omega) (Nat.le_trans B3.out.size BA4.out.size))
  go_wp2_with fail
  refine HA4.out.mono ?_
  rintro e w4 ⟨L4, s4, v4, rfl, hK, hC, -, -, -⟩
  have K4 := hid (show JC w4 w.heap.size jk b cb L4 s4 3 v4 [⟨#[97]⟩, ⟨#[98, 99]⟩] (N3 + 10000) from hK.mono (by have : (formB [⟨#[97]⟩, ⟨#[98, 99]⟩]).length ≤ 225 * 2 := Bd.form ⟨by decide, by decide⟩; omega))
  have B4 := hid (hC.low (B3.out.trans (BA4.out.mono B3.out.size)) (fun k hk => (K3.out.base_ hk).1))
  obtain ⟨N4, hN4⟩ : ∃ n, n = N3 + 10000 := ⟨_, rfl⟩
  rw [← hN4] at K4
  have hb4 : N4 ≤ 50000 := by omega
  clear hK hC HA4 SA4 BA4 K3 B3 hN4

  have HA5 := hid (capp_any w.heap.size jk b cb L4 s4 3 v4 [⟨#[97]⟩, ⟨#[98, 99]⟩] N4 none 0 [] w4 K4.out ⟨by omega, by omega⟩ SlR.nil (fun ad h _ e => by cases h) ⟨by decide, by decide⟩ ⟨by decide, by decide⟩ (by omega) B4.out.size)
  go_wp2_with fail
  refine HA5.out.mono ?_
  rintro e w5 ⟨L5, s5, v5, rfl, hK, hC, -, -, -⟩
  have K5 := hid (show JC w5 w.heap.size jk b cb L5 s5 3 v5 [⟨#[97]⟩, ⟨#[98, 99]⟩] (N4 + 10000) from hK.mono (by rw [form_nil, List.length_nil]; omega))
  have B5 := hid (hC.low B4.out (fun k hk => (K4.out.base_ hk).1))
  obtain ⟨N5, hN5⟩ : ∃ n, n = N4 + 10000 := ⟨_, rfl⟩
  rw [← hN5] at K5
  have hb5 : N5 ≤ 60000 := by omega
  clear hK hC HA5 K4 B4 hN5
  have BA6 := hid (show Below w5.heap.size w5 (w5.alloc (Obj.cells #[Value.string ⟨#[100]⟩] 9)) by (repeat (first | exact Below.refl _ _ | assumption | refine below_drewN ?_ _ | refine Below.drew ?_ | refine Below.alloc ?_ (by (try simp); (try omega)) _ | refine Below.setCell ?_ (by (try simp); (try omega)) _)))
  have SA6 := hid (show SlR (w5.alloc (Obj.cells #[Value.string ⟨#[100]⟩] 9)) (w5.alloc (Obj.cells #[Value.string ⟨#[100]⟩] 9)).heap.size (some ⟨w5.heap.size, 0, none⟩) ([⟨#[100]⟩] : List ByteArray) from slr_new w5 [⟨#[100]⟩] (by decide))
  have HA6 := hid (capp_any w.heap.size jk b cb L5 s5 3 v5 [⟨#[97]⟩, ⟨#[98, 99]⟩] N5 (some ⟨w5.heap.size, 0, none⟩) 1 [⟨#[100]⟩] (w5.alloc (Obj.cells #[Value.string ⟨#[100]⟩] 9)) (K5.out.below BA6.out) ⟨by omega, by omega⟩ SA6.out (fun ad h _ e => by injection h with h; subst h; have := (K5.out.base_ e).2; simp at this) ⟨by decide, by decide⟩ ⟨by decide, by decide⟩ (by omega) (Nat.le_trans B5.out.size BA6.out.size))
  go_wp2_with fail
  refine HA6.out.mono ?_
  rintro e w6 ⟨L6, s6, v6, rfl, hK, hC, -, -, -⟩
  have K6 := hid (show JC w6 w.heap.size jk b cb L6 s6 3 v6 [⟨#[97]⟩, ⟨#[98, 99]⟩, ⟨#[100]⟩] (N5 + 10000) from hK.mono (by have : (formB [⟨#[100]⟩]).length ≤ 225 * 2 := Bd.form ⟨by decide, by decide⟩; omega))
  have B6 := hid (hC.low (B5.out.trans (BA6.out.mono B5.out.size)) (fun k hk => (K5.out.base_ hk).1))
  obtain ⟨N6, hN6⟩ : ∃ n, n = N5 + 10000 := ⟨_, rfl⟩
  rw [← hN6] at K6
  have hb6 : N6 ≤ 70000 := by omega
  clear hK hC HA6 SA6 BA6 K5 B5 hN6

  have HA7 := hid (ccut_any w.heap.size jk b cb L6 s6 3 v6 [⟨#[97]⟩, ⟨#[98, 99]⟩, ⟨#[100]⟩] N6 2 w6 K6.out ⟨by omega, by omega⟩ ⟨by omega, by omega⟩ ⟨by decide, by decide⟩ (by omega) B6.out.size)
  go_wp2_with fail
  refine HA7.out.mono ?_
  rintro e w7 ⟨L7, s7, v7, rfl, hK, hC, -, -, -⟩
  have K7 := hid (show JC w7 w.heap.size jk b cb L7 s7 3 v7 [⟨#[97]⟩, ⟨#[98, 99]⟩] (N6 + 10000) from JC.mono (by simpa using hK) (by omega))
  have B7 := hid (hC.low B6.out (fun k hk => (K6.out.base_ hk).1))
  obtain ⟨N7, hN7⟩ : ∃ n, n = N6 + 10000 := ⟨_, rfl⟩
  rw [← hN7] at K7
  have hb7 : N7 ≤ 80000 := by omega
  clear hK hC HA7 K6 B6 hN7
  have HA8 := hid (all_any w.heap.size jk b cb 3 v7 [⟨#[97]⟩, ⟨#[98, 99]⟩] false w7 K7.out.jr (by decide))
  go_wp2_with fail
  refine HA8.out.mono ?_
  rintro e w8 ⟨g8, rfl, -, hO, hB⟩
  obtain ⟨A8, c8, hv, -, -, hsl⟩ := hO.slr (show ∀ x ∈ ([⟨#[97]⟩, ⟨#[98, 99]⟩] : List ByteArray), x.size ≤ maxLen by decide)
  injection hv with hA hA2 hA3
  clear hA2 hA3
  have SL8 := hid (show SlR w8 w8.heap.size (some ⟨g8, 0, none⟩) ([⟨#[97]⟩, ⟨#[98, 99]⟩] : List ByteArray) from hA ▸ hsl)
  have K8 := hid (K7.out.below hB)
  have B8 := hid (B7.out.trans (hB.mono B7.out.size))
  clear hO hB hsl hA HA8 K7 B7
  have BA9 := hid (show Below w8.heap.size w8 (w8.alloc (Obj.cells #[Value.string ⟨#[97]⟩, Value.string ⟨#[98, 99]⟩] 9)) by (repeat (first | exact Below.refl _ _ | assumption | refine below_drewN ?_ _ | refine Below.drew ?_ | refine Below.alloc ?_ (by (try simp); (try omega)) _ | refine Below.setCell ?_ (by (try simp); (try omega)) _)))
  have SA9 := hid (show SlR (w8.alloc (Obj.cells #[Value.string ⟨#[97]⟩, Value.string ⟨#[98, 99]⟩] 9)) (w8.alloc (Obj.cells #[Value.string ⟨#[97]⟩, Value.string ⟨#[98, 99]⟩] 9)).heap.size (some ⟨w8.heap.size, 0, none⟩) ([⟨#[97]⟩, ⟨#[98, 99]⟩] : List ByteArray) from slr_new w8 [⟨#[97]⟩, ⟨#[98, 99]⟩] (by decide))
  have hs9 := (sameTexts_any (some ⟨g8, 0, none⟩) (some ⟨w8.heap.size, 0, none⟩) 2 2 [⟨#[97]⟩, ⟨#[98, 99]⟩] [⟨#[97]⟩, ⟨#[98, 99]⟩] (w8.alloc (Obj.cells #[Value.string ⟨#[97]⟩, Value.string ⟨#[98, 99]⟩] 9)) ((SL8.out.below BA9.out).more BA9.out.size) SA9.out (by decide) (by decide))
  rw [show decide (([⟨#[97]⟩, ⟨#[98, 99]⟩] : List ByteArray) = [⟨#[97]⟩, ⟨#[98, 99]⟩]) = true from decide_eq_true rfl] at hs9
  have HS9 := hid hs9
  clear hs9
  go_wp2_with fail
  refine HS9.out.mono ?_
  rintro e w9 ⟨rfl, hB⟩
  have K9 := hid ((K8.out.below BA9.out).below hB)
  have B9 := hid ((B8.out.trans (BA9.out.mono B8.out.size)).trans (hB.mono (Nat.le_trans B8.out.size BA9.out.size)))
  obtain ⟨L9, hL9⟩ : ∃ x, x = L7 := ⟨_, rfl⟩
  obtain ⟨s9, hs9⟩ : ∃ x, x = s7 := ⟨_, rfl⟩
  obtain ⟨v9, hv9⟩ : ∃ x, x = v7 := ⟨_, rfl⟩
  obtain ⟨N9, hN9⟩ : ∃ x, x = N7 := ⟨_, rfl⟩
  rw [← hL9, ← hs9, ← hv9, ← hN9] at K9
  have hb9 : N9 ≤ 100000 := by omega
  clear hB K8 B8 BA9 SA9 HS9 hL9 hs9 hv9 hN9
  have BA10 := hid (show Below w9.heap.size w9 (w9.alloc (Obj.cells #[Value.string ⟨#[101]⟩] 9)) by (repeat (first | exact Below.refl _ _ | assumption | refine below_drewN ?_ _ | refine Below.drew ?_ | refine Below.alloc ?_ (by (try simp); (try omega)) _ | refine Below.setCell ?_ (by (try simp); (try omega)) _)))
  have SA10 := hid (show SlR (w9.alloc (Obj.cells #[Value.string ⟨#[101]⟩] 9)) (w9.alloc (Obj.cells #[Value.string ⟨#[101]⟩] 9)).heap.size (some ⟨w9.heap.size, 0, none⟩) ([⟨#[101]⟩] : List ByteArray) from slr_new w9 [⟨#[101]⟩] (by decide))
  have HA10 := hid (capp_any w.heap.size jk b cb L9 s9 3 v9 [⟨#[97]⟩, ⟨#[98, 99]⟩] N9 (some ⟨w9.heap.size, 0, none⟩) 1 [⟨#[101]⟩] (w9.alloc (Obj.cells #[Value.string ⟨#[101]⟩] 9)) (K9.out.below BA10.out) ⟨by omega, by omega⟩ SA10.out (fun ad h _ e => by injection h with h; subst h; have := (K9.out.base_ e).2; simp at this) ⟨by decide, by decide⟩ ⟨by decide, by decide⟩ (by omega) (Nat.le_trans B9.out.size BA10.out.size))
  go_wp2_with fail
  refine HA10.out.mono ?_
  rintro e w10 ⟨L10, s10, v10, rfl, hK, hC, -, -, -⟩
  have K10 := hid (show JC w10 w.heap.size jk b cb L10 s10 3 v10 [⟨#[97]⟩, ⟨#[98, 99]⟩, ⟨#[101]⟩] (N9 + 10000) from hK.mono (by have : (formB [⟨#[101]⟩]).length ≤ 225 * 2 := Bd.form ⟨by decide, by decide⟩; omega))
  have B10 := hid (hC.low (B9.out.trans (BA10.out.mono B9.out.size)) (fun k hk => (K9.out.base_ hk).1))
  obtain ⟨N10, hN10⟩ : ∃ n, n = N9 + 10000 := ⟨_, rfl⟩
  rw [← hN10] at K10
  have hb10 : N10 ≤ 110000 := by omega
  clear hK hC HA10 SA10 BA10 K9 B9 hN10

  have HG1 := hid (fun (W : World) (hW : Below w10.heap.size w10 W) => show Calls Tryd.prog 22 #[.pointer (some ⟨jk, 0, none⟩), .int .i64 2] W fun e w' => e = .returned (.string ⟨#[101]⟩) ∧ Below W.heap.size W w' from get_any w.heap.size jk b cb 3 v10 [⟨#[97]⟩, ⟨#[98, 99]⟩, ⟨#[101]⟩] false 2 W (K10.out.below hW).jr)
  have HG2 := hid (fun (W : World) (hW : Below w10.heap.size w10 W) => show Calls Tryd.prog 22 #[.pointer (some ⟨jk, 0, none⟩), .int .i64 3] W fun e w' => e = .returned (.string { data := #[] }) ∧ Below W.heap.size W w' from get_any w.heap.size jk b cb 3 v10 [⟨#[97]⟩, ⟨#[98, 99]⟩, ⟨#[101]⟩] false 3 W (K10.out.below hW).jr)
  go_wp2_with fail
  refine (HG1.out w10 (Below.refl _ _)).mono ?_
  rintro e w11 ⟨rfl, hB⟩
  have B11 := hid hB
  clear hB
  go_wp2_with fail
  refine (HG2.out w11 B11.out).mono ?_
  rintro e w12 ⟨rfl, hB⟩
  have B12 := hid (B10.out.trans ((B11.out.trans (hB.mono B11.out.size)).mono B10.out.size))
  clear hB
  go_wp2_with fail
  go_ret
  exact ⟨rfl, B12.out⟩
end Go.Proofs.YtbefmjodpndndaaDoor
