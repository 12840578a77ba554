/- Wire: WireNests, the walk. -/
import Derived.Test.YtjdblegmpmampaaDoorWireU
set_option linter.unusedSimpArgs false
set_option linter.unusedVariables false
namespace Go.Proofs.YtjdblegmpmampaaDoor
open Go.RowKit Go.IntWalk

theorem encTs_len (xs : List (List UInt8)) (h : ∀ x ∈ xs, x.length ≤ 300000) (hn : xs.length ≤ 20) : (encL (xs.map encT)).length ≤ 7000000 := by
  have h1 := flat_bound (xs.map encT) 300100 (by
    intro y hy
    obtain ⟨x, hx, rfl⟩ := List.mem_map.1 hy
    have := h x hx
    have := Lib.itoa_length_le (x.length : Int) (by omega) (by omega)
    rw [encT]
    simp only [List.length_append, List.length_cons, List.length_nil]
    omega)
  have h3 := Lib.itoa_length_le ((xs.map encT).length : Int) (by omega) (by rw [List.length_map]; omega)
  rw [List.length_map] at h1
  rw [encL]
  simp only [List.length_append, List.length_cons, List.length_nil]
  omega
theorem map_snoc {α β : Type} (f : α → β) (l : List α) (k : Nat) (h : k < l.length) : (l.take (k + 1)).map f = (l.take k).map f ++ [f l[k]] := by
  rw [List.take_add_one, List.getElem?_eq_getElem h, List.map_append]; rfl
theorem bs_encB (xs : List (List UInt8)) : (xs.map bs).map encB = xs.map encT := by
  rw [List.map_map]; apply List.map_congr_left; intro x _; simp [encB, bs]
set_option maxRecDepth 20000 in
set_option maxHeartbeats 4000000 in
theorem nests_any (A : Option Addr) (c : Nat) (l : List Val) (w : World) (hl : l.length ≤ maxLen) (hs : SlR w w.heap.size A l) (he : Env w) :
    Calls Tryd.prog 6 #[.slice A l.length c] w fun e w' => e = .returned (.bool true) ∧ Below w.heap.size w w' := by
  go_enter Tryd.func6, Tryd.ntmps6
  go_wp2_with fail
  refine (small_any _ he).mono ?_
  rintro e w1 ⟨rfl, hB1⟩
  go_wp2_with fail
  refine (few_any A c l w1 hl ((hs.below hB1).more hB1.size)).mono ?_
  rintro e w2 ⟨rfl, hB⟩
  have hB2 := hid (hB1.trans (hB.mono hB1.size))
  clear hB hB1
  cases hfew : fewB l with
  | false =>
    clear hfew
    go_wp2_with fail
    go_ret
    exact ⟨rfl, hB2.out⟩
  | true =>
    have hF : Few l := by simpa [fewB] using hfew
    have hFl := hF.n
    have hO := hid hF.o
    clear hfew hF
    have hIs := hid hs.ints_of
    have hLen := hid (show ∀ v ∈ l, (encV v).length ≤ 300000 from fun v hv => encV_len v (hO.out v hv) (hIs.out v hv).2.1 (hIs.out v hv).2.2)
    have Hl := hid hl
    clear hl
    go_wp2_with fail
    go_loopw [4, 5] (fun s i wr => ∃ k : Nat, k ≤ l.length ∧ i = .int .i64 k ∧ OwnS wr w.heap.size s ((l.take k).map encV) ∧ Below w.heap.size w wr) (fun _ i _ => l.length - (intOf i).toNat)
    case atStart => exact ⟨0, by omega, rfl, by simpa using OwnS.nil _ _, hB2.out⟩
    case round =>
      obtain ⟨k, hk, rfl, hown, hB⟩ := hrel
      by_cases hlt : k < l.length
      · obtain ⟨b1, o1, A1, c1, A2, c2, rfl, hbb, g0, g1, g2, g3, g4, q0, q1, q2, q3, q4, q5, q6, q7⟩ := (hs.below hB).val5 hlt
        have hsn := hid (map_snoc encV l k hlt)
        have hok := hid (hO.out l[k] (List.getElem_mem hlt))
        have hlt' : (k : Int) < l.length := by omega
        have hlen : ((l.take k).map encV).length ≤ 20 := by simp; omega
        generalize l[k] = v at *
        obtain ⟨v0, v1, S, L, T⟩ := v
        simp only at g0 g1 g2 g3 g4 q0 q1 q2 q3 q4 q5 q6 q7
        go_wp2_with fail
        refine (write_any v0 v1 S A1 c1 L A2 c2 T _ q0 q1 q2 q3 (q6.more hB.size) q4 q5 (q7.more hB.size) hok.out (he.below hB)).mono ?_
        rintro e w3 ⟨rfl, hB3⟩
        have hown3 := hown.below hB3
        have hB4 := hB.trans (hB3.mono hB.size)
        have hsz := hB4.size
        clear hown hB hB3
        go_wp2_with (at_builtin; refine wp_appS _ rfl (.tmp 22) (.tmp 28) rfl w.heap.size _ _ rfl (hown3.alloc _) _ _ [encV (v0, v1, S, L, T)] rfl (cell1_newS _ _) (by simp at hlen ⊢; omega) (by simp; omega) ?_; intro s1 w5 ho1 hg5 hat1)
        have hB5 : Below w.heap.size w w5 := (hB4.alloc hB4.size _).grown hg5 (hB4.alloc hB4.size _).size (fun k hk => hown3.row k hk)
        go_wp2_with fail
        go_roundw
        case rel => exact ⟨k + 1, by omega, by go_num, by rw [hsn.out]; exact ho1, hB5⟩
        case measure => simp [intOf]; omega
      · obtain rfl : k = l.length := by omega
        rw [List.take_length] at hown
        obtain ⟨xs, hxs⟩ : ∃ xs, xs = l.map encV := ⟨_, rfl⟩
        rw [← hxs] at hown
        have hxb : Hid (∀ x ∈ xs, x.length ≤ 300000) := hid (by
          intro x hx
          rw [hxs] at hx
          obtain ⟨v, hv, rfl⟩ := List.mem_map.1 hx
          exact hLen.out v hv)
        have hxn := hid (show xs.length = l.length by rw [hxs, List.length_map])
        have hxk := hid (show ∀ (k : Nat) (h : k < l.length) (h2 : k < xs.length), xs[k] = encV l[k] by intro k h h2; subst hxs; simp)
        have htl := hid (encTs_len xs hxb.out (by rw [hxn.out]; exact hFl))
        have hx20 : xs.length ≤ 20 := by rw [hxn.out]; exact hFl
        clear hxs
        obtain ⟨A3, c3, rfl, _, _, hsl3⟩ := hown.slr (fun x hx => Nat.le_trans (hxb.out x hx) (by decide))
        have hBz := hid hB
        clear hB hB2 hown
        go_wp2_with fail
        rw [show xs.length = (xs.map bs).length by rw [List.length_map]]
        refine (wTexts_any A3 c3 (xs.map bs) wr (by
          rw [bs_encB]
          have := htl.out
          rw [encL] at this
          simp only [List.length_append] at this
          omega) (by rw [List.length_map]; omega) (by intro x hx; obtain ⟨y, hy, rfl⟩ := List.mem_map.1 hx; rw [bs_size]; exact Nat.le_trans (hxb.out y hy) (by decide)) hsl3 (he.below hBz.out)).mono ?_
        rw [bs_encB]
        obtain ⟨te, hte⟩ : ∃ te, te = encL (xs.map encT) := ⟨_, rfl⟩
        rw [← hte] at htl ⊢
        have Hte := hid hte
        clear hte
        rintro e w3 ⟨rfl, hB⟩
        have hB3 := hid (hBz.out.trans (hB.mono hBz.out.size))
        clear hB hBz hsl3
        go_wp2_with fail
        refine (wText_any (bs te) (by rw [bs_size]; have := htl.out; omega) w3 (he.below hB3.out)).mono ?_
        rw [show (bs te).data.toList = te by simp [bs]]
        rintro e w4 ⟨rfl, hB⟩
        have hB4 := hid (hB3.out.trans (hB.mono hB3.out.size))
        clear hB hB3
        go_wp2_with fail
        refine (open_any (bs (encT te)) w4).mono ?_
        rw [show (bs (encT te)).data.toList = encT te by simp [bs]]
        rintro e w5 ⟨rfl, hR, hB⟩
        have hB5 := hid (hB4.out.trans (hB.mono hB4.out.size))
        have hz4 := hid hB4.out.size
        have hz5 := hR.lt
        clear hB hB4
        go_wp2_with fail
        have htx := hid (text_any w4.heap.size (encT te) false w5 hR (by intro h; cases h) (by
          have := htl.out
          have h3 := Lib.itoa_length_le (te.length : Int) (by omega) (by omega)
          rw [encT]
          simp only [List.length_append, List.length_cons, List.length_nil]
          omega) (he.below hB5.out))
        rw [show textL (encT te) = some (te, []) by have := textL_encT te [] (by have := htl.out; omega); rwa [List.append_nil] at this] at htx
        clear hR
        refine htx.out.mono ?_
        rintro e w6 ⟨rfl, hR, hg⟩
        have hB6 := hid (bg hB5.out hg hz4.out)
        have hz6 := hR.lt
        clear hB5 hg htx
        go_wp2_with fail
        refine (open_any (bs te) w6).mono ?_
        rw [show (bs te).data.toList = te by simp [bs]]
        rintro e w7 ⟨rfl, hR2, hB⟩
        have hB7 := hid (hB6.out.trans (hB.mono hB6.out.size))
        have hR1 : Rd w7 w4.heap.size [] false := Blk.below hR hB hR.lt
        have hz66 := hid hB6.out.size
        have hz7 := hR2.lt
        clear hB hB6 hR
        go_wp2_with fail
        refine (done_any _ _ _ _ hR1).mono ?_
        rw [Bool.not_false, Bool.true_and, List.isEmpty_nil]
        rintro e w8 ⟨rfl, hB⟩
        have hB8 := hid (hB7.out.trans (hB.mono hB7.out.size))
        have hR3 : Rd w8 w6.heap.size te false := Blk.below hR2 hB hR2.lt
        clear hB hB7 hR1 hR2
        go_wp2_with fail
        have hls := hid (textsR_any w he w6.heap.size hz66.out te false w8 hB8.out hR3 (by intro h; cases h) (by have := htl.out; omega))
        rw [show listL textL te = some (xs, []) by
          have := listL_enc textL encT xs [] (by omega) (fun x hx r => textL_encT x r (Nat.le_trans (hxb.out x hx) (by decide)))
          rwa [List.append_nil, ← Hte.out] at this] at hls
        refine hls.out.mono ?_
        rintro e w9 ⟨sv, rfl, hown, hR4, hg⟩
        have hB9 := bg hB8.out hg hz66.out
        obtain ⟨A5, c5, rfl, _, _, hsl5⟩ := hown.slr (fun x hx => Nat.le_trans (hxb.out x hx) (by decide))
        rw [hxn.out]
        clear hR3 hB8 hls hg hown
        go_wp2_with fail
        refine (done_any _ _ _ _ hR4).mono ?_
        rw [Bool.not_false, Bool.true_and, List.isEmpty_nil]
        rintro e wq ⟨rfl, hB⟩
        have hBq := hid (hB9.trans (hB.mono hB9.size))
        have hslq := hid ((hsl5.below hB).more hB.size)
        clear hB hB9 hsl5 hR4
        go_wp2_with fail
        go_loopw [9] (fun i wr => ∃ k : Nat, k ≤ l.length ∧ i = .int .i64 k ∧ Below wq.heap.size wq wr) (fun i _ => l.length - (intOf i).toNat)
        case atStart => exact ⟨0, by omega, rfl, Below.refl _ _⟩
        case round =>
          obtain ⟨k, hk, rfl, hB⟩ := hrel
          by_cases hlt : k < l.length
          · have hBw := hid (hBq.out.trans (hB.mono hBq.out.size))
            obtain ⟨b1, o1, A1, c1, A2, c2, rfl, hbb, g0, g1, g2, g3, g4, q0, q1, q2, q3, q4, q5, q6, q7⟩ := hs.val5 hlt
            have hlx : k < (xs.map bs).length := by rw [List.length_map, hxn.out]; exact hlt
            obtain ⟨b2, o2, rfl, _, gx⟩ := (hslq.out.below hB).str hlx
            have hex := hid (show (xs.map bs)[k] = bs (encV l[k]) by rw [List.getElem_map, hxk.out k hlt (by simpa using hlx)])
            rw [hex.out] at gx
            have hok := hid (hO.out l[k] (List.getElem_mem hlt))
            have hle := hid (hLen.out l[k] (List.getElem_mem hlt))
            have hlt' : (k : Int) < l.length := by omega
            clear hex
            generalize l[k] = v at *
            obtain ⟨v0, v1, S, L, T⟩ := v
            simp only at g0 g1 g2 g3 g4 q0 q1 q2 q3 q4 q5 q6 q7
            clear hlx
            go_wp2_with fail
            refine (open_any _ wr).mono ?_
            rw [show (bs (encV (v0, v1, S, L, T))).data.toList = encV (v0, v1, S, L, T) ++ [] by simp [bs]]
            rintro e wo ⟨rfl, hRo, hBo⟩
            have hBwo := hid (hBw.out.trans (hBo.mono hBw.out.size))
            have hzo := hRo.lt
            have h0 := (bcell hBwo.out b1 (o1 + k * 5) hbb).trans g0
            have h1 := (bcell hBwo.out b1 (o1 + k * 5 + 1) hbb).trans g1
            have h2 := (bcell hBwo.out b1 (o1 + k * 5 + 2) hbb).trans g2
            have h3 := (bcell hBwo.out b1 (o1 + k * 5 + 3) hbb).trans g3
            have h4 := (bcell hBwo.out b1 (o1 + k * 5 + 4) hbb).trans g4
            have hzw := hid hBw.out.size
            have hBqo := hid (hB.trans (hBo.mono hB.size))
            have hzq := hid hB.size
            clear g0 g1 g2 g3 g4 gx hB hBo hBw
            go_wp2_with fail
            refine (equal_any v0 v1 S A1 c1 L A2 c2 T w q0 q1 q2 q3 q6 q4 q5 q7 hok.out he wr.heap.size hzw.out wo hBwo.out [] hRo (by have := hle.out; simp; omega)).mono ?_
            rintro e wp ⟨rfl, hRp, hgp⟩
            have hBp := hid (bg hBqo.out hgp hzq.out)
            clear h0 h1 h2 h3 h4 hRo hgp hBqo hBwo
            go_wp2_with fail
            refine (done_any _ _ _ _ hRp).mono ?_
            rw [Bool.not_false, Bool.true_and, List.isEmpty_nil]
            rintro e wr2 ⟨rfl, hB⟩
            have hBr := hid (hBp.out.trans (hB.mono hBp.out.size))
            go_wp2_with fail
            go_roundw
            case rel => exact ⟨k + 1, by omega, by go_num, hBr.out⟩
            case measure => simp [intOf]; omega
          · go_wp2_with fail
            go_ret
            exact ⟨rfl, hBq.out.trans (hB.mono hBq.out.size)⟩
end Go.Proofs.YtjdblegmpmampaaDoor
