/- Contract: slices.DeleteFunc over stones that the call owns. -/
import Derived.Test.YtomcpgdpjpjioaaDf
namespace Go.Proofs.Ytomcpgdpjpjioaa
open Go.RowKit Go.Proofs Go.Shelf
attribute [local go_sem] Oper.semAt_some

theorem RowW.rowS {W : World} {g n c : Nat} {cur : List St} (h : RowW W g cur) (hn : n ≤ cur.length) (hc : n ≤ c) (hm : c ≤ maxLen) (h48 : n ≤ 281474976710656) : RowS W (.slice (some ⟨g, 0, none⟩) n c) (cur.take n) := by
  have hl : (cur.take n).length = n := by rw [List.length_take]; omega
  refine ⟨_, _, by rw [hl], by omega, ⟨by omega, hm⟩, fun _ => ⟨g, 0, rfl, fun j hj => ?_⟩⟩
  rw [hl] at hj
  rw [Nat.zero_add, List.getElem_take]
  exact (h j (by omega)).1
theorem fidx_cases {α : Type} (p : α → Bool) (l : List α) : (fidx p l = -1 ∧ ∀ s ∈ l, p s = false) ∨ (∃ i : Nat, ∃ h : i < l.length, fidx p l = i ∧ p (l[i]'h) = true ∧ ∀ j (hj : j < i), p (l[j]'(by omega)) = false) := by
  unfold fidx
  by_cases h : l.findIdx p < l.length
  · refine .inr ⟨l.findIdx p, h, by rw [if_pos h], List.findIdx_getElem (w := h), fun j hj => ?_⟩
    have := List.not_of_lt_findIdx (p := p) (xs := l) hj
    simpa using this
  · refine .inl ⟨by rw [if_neg h], fun s hs => ?_⟩
    cases e : p s
    · rfl
    · exact absurd (List.findIdx_lt_length_of_exists ⟨s, hs, e⟩) h
/-- What DeleteFunc comes to. -/
def DelC (p : St → Bool) (l : List St) (g c : Nat) (w : World) (e : Ending) (w' : World) : Prop :=
  ∃ n, e = .returned (.slice (some ⟨g, 0, none⟩) n c) ∧ n = (l.filter (fun s => !p s)).length ∧ RowS w' (.slice (some ⟨g, 0, none⟩) n c) (l.filter (fun s => !p s)) ∧ w.grownBy w' (some g)

set_option maxRecDepth 100000 in
set_option maxHeartbeats 4000000 in
theorem del68 (f : FuncId) (caps : Array Value) (p : St → Bool) (l : List St) (g c : Nat) (w : World) (hf : ∀ args w, (callFunc f args).run Try.prog w = .ok (.enter f args) w) (hrow : RowW w g l) (hl : l.length ≤ 900) (hc : l.length ≤ c) (hm : c ≤ maxLen)
    (hcl : ∀ s W, w.grownBy W (some g) → Calls Try.prog f (#[Stv s] ++ caps) W (Back (.bool (p s)) W)) :
    Calls Try.prog 68 #[.slice (some ⟨g, 0, none⟩) l.length c, .func (.func f) #[] caps] w (DelC p l g c w) := by
  have HC := Lib.hid hcl
  have HR := Lib.hid hrow
  have HM := Lib.hid hm
  have RS : RowS w (.slice (some ⟨g, 0, none⟩) l.length c) l := by
    have := hrow.rowS (n := l.length) (c := c) (Nat.le_refl _) hc hm (by omega)
    rwa [List.take_length] at this
  have H93 := Lib.hid (idxS f caps p l _ w hf RS (fun s W hW => hcl s W (grown_of hW _)))
  rcases fidx_cases p l with ⟨e1, hno⟩ | ⟨i0, hi0, e1, hp0, hbef⟩
  · have hfil : l.filter (fun s => !p s) = l := List.filter_eq_self.2 (fun s hs => by rw [hno s hs]; rfl)
    rw [e1] at H93
    have HRS := Lib.hid RS
    have HF := Lib.hid hfil
    clear hcl hrow hm RS e1 hno hfil
    go_enter Try.func68, Try.ntmps68
    go_wp2_with (go_at_call 93; refine H93.out.mono ?_; rintro e w1 ⟨rfl, hb1⟩; have HB := Lib.hid hb1; clear hb1)
    refine bodyPost_ret (v := .slice (some ⟨g, 0, none⟩) l.length c) (by simp [results, Try.results68, go_sem]) rfl ⟨l.length, rfl, by rw [HF.out], ?_, grown_of HB.out _⟩
    rw [HF.out]
    exact HRS.out.up HB.out
  · rw [e1] at H93
    have hi0' : (i0 : Int) < (l.length : Int) := by omega
    have HFI : Hid ((l.take (i0 + 1)).filter (fun s => !p s) = l.take i0) := by
      show _ = _
      rw [List.take_succ_eq_append_getElem hi0, List.filter_append]
      have h1 : [l[i0]'hi0].filter (fun s => !p s) = [] := by simp [hp0]
      rw [h1, List.append_nil]
      refine List.filter_eq_self.2 (fun s hs => ?_)
      obtain ⟨j, hj, rfl⟩ := List.getElem_of_mem hs
      rw [List.length_take] at hj
      rw [List.getElem_take, hbef j (by omega)]; rfl
    have hx0 : ((i0 : Int) == -1) = false := by rw [beq_eq_false_iff_ne]; omega
    clear hcl hrow hm RS e1 hp0 hbef
    go_enter Try.func68, Try.ntmps68
    go_wp2_with (go_at_call 93; refine H93.out.mono ?_; rintro e w1 ⟨rfl, hb1⟩; have HB := Lib.hid hb1; clear hb1)
    have G0 := Lib.hid (grown_of HB.out (some g))
    have R0 := Lib.hid (HR.out.up HB.out)
    go_loopw [5, 6] (fun iv jv wr => ∃ (i j : Nat) (cur : List St), i < j ∧ j ≤ l.length ∧ iv = .int .i64 i ∧ jv = .int .i64 j ∧ cur.length = l.length ∧ Hid (cur.take i = (l.take j).filter (fun s => !p s)) ∧ Hid (cur.drop j = l.drop j) ∧ Hid (RowW wr g cur) ∧ Hid (w.grownBy wr (some g))) (fun _ jv _ => l.length - (intOf jv).toNat)
    case atStart => exact ⟨i0, i0 + 1, l, by omega, by omega, rfl, by go_num, rfl, HFI.out.symm, rfl, R0, G0⟩
    case round =>
      obtain ⟨i, j, cur, hij, hj, rfl, rfl, hcur, ht, hd, hr, hg'⟩ := hrel
      have HT := Lib.hid ht.out
      have HD := Lib.hid hd.out
      have HR' := Lib.hid hr.out
      have HG := Lib.hid hg'.out
      clear ht hd hr hg' R0 G0
      by_cases hlt : j < l.length
      · have hlt' : (j : Int) < (l.length : Int) := by omega
        have hjc : j < cur.length := by omega
        have hic : i < cur.length := by omega
        have hsj : cur[j]'hjc = l[j]'hlt := by
          have h1 : (cur.drop j)[0]? = (l.drop j)[0]? := by rw [HD.out]
          rw [List.getElem?_drop, List.getElem?_drop, Nat.add_zero, List.getElem?_eq_getElem hjc, List.getElem?_eq_getElem hlt] at h1
          exact Option.some.inj h1
        have hstep : (l.take (j + 1)).filter (fun s => !p s) = (l.take j).filter (fun s => !p s) ++ if p (l[j]'hlt) = true then [] else [l[j]'hlt] := by
          rw [List.take_succ_eq_append_getElem hlt, List.filter_append]
          cases e : p (l[j]'hlt) <;> simp [e]
        have hdrop : ∀ s, (cur.set i s).drop (j + 1) = l.drop (j + 1) := fun s => by
          rw [List.drop_set_of_lt (by omega)]
          have h1 : (cur.drop j).drop 1 = (l.drop j).drop 1 := by rw [HD.out]
          simpa [List.drop_drop] using h1
        have hdrop0 : cur.drop (j + 1) = l.drop (j + 1) := by
          have h1 : (cur.drop j).drop 1 = (l.drop j).drop 1 := by rw [HD.out]
          simpa [List.drop_drop] using h1
        obtain ⟨⟨a0, a1, a2, a3⟩, -⟩ := HR'.out j hjc
        obtain ⟨s, hs⟩ : ∃ s, l[j]'hlt = s := ⟨_, rfl⟩
        rw [hs] at hsj hstep
        rw [hsj] at a0 a1 a2 a3
        obtain ⟨q, hq⟩ : ∃ q, p s = q := ⟨_, rfl⟩
        rw [hq] at hstep
        have HCk := Lib.hid (HC.out s)
        rw [hq] at HCk
        have HST := Lib.hid hstep
        have HDR := Lib.hid hdrop
        have HDR0 := Lib.hid hdrop0
        have hcap : ¬ c = i := by omega
        clear hq hs hsj hstep hdrop hdrop0 HD
        obtain ⟨s1, s2, s3, s4⟩ := s
        simp only at a0 a1 a2 a3
        go_upto_region 8 with fail
        generalize hwx : World.alloc wr _ = wx
        have KX : At4 wx wr.heap.size 0 ⟨s1, s2, s3, s4⟩ := by rw [← hwx]; exact At4.new wr ⟨s1, s2, s3, s4⟩
        have RX : Hid (RowW wx g cur) := by show RowW _ _ _; rw [← hwx]; exact HR'.out.kept (World.grownBy_alloc _ _ none) (by simp)
        have GX : Hid (w.grownBy wx (some g)) := by show World.grownBy _ _ _; rw [← hwx]; exact HG.out.trans (World.grownBy_alloc _ _ _)
        clear hwx a0 a1 a2 a3 HR' HG
        have KXH := Lib.hid KX
        obtain ⟨c0, c1, c2, c3⟩ := KX
        simp only [Nat.zero_add] at c0 c1 c2 c3
        go_wp2_with fail
        refine (HCk.out _ GX.out).mono ?_
        rintro e w2 ⟨rfl, hb2⟩
        have K2 := Lib.hid (KXH.out.up hb2)
        have R2 := Lib.hid (RX.out.up hb2)
        have G2 := Lib.hid (GX.out.trans (grown_of hb2 (some g)))
        clear hb2 c0 c1 c2 c3 KXH RX GX
        cases q
        · obtain ⟨d0, d1, d2, d3⟩ := K2.out
          obtain ⟨⟨b0, b1, b2, b3⟩, f0, f1, f2, f3⟩ := R2.out i hic
          simp only [Nat.zero_add] at d0 d1 d2 d3
          go_upto_region 10 with fail
          generalize hws : World.setCell _ _ _ = ws
          have RS : Hid (RowW ws g (cur.set i ⟨s1, s2, s3, s4⟩)) := by show RowW _ _ _; rw [← hws]; exact R2.out.set i ⟨s1, s2, s3, s4⟩ hic
          have GS : Hid (w.grownBy ws (some g)) := by show World.grownBy _ _ _; rw [← hws]; exact G2.out.trans (grown_setCells g (stC ⟨s1, s2, s3, s4⟩) (i * 4) w2)
          clear hws d0 d1 d2 d3 b0 b1 b2 b3 f0 f1 f2 f3 K2 R2 G2
          go_wp2_with fail
          go_roundw
          case rel =>
            refine ⟨i + 1, j + 1, cur.set i ⟨s1, s2, s3, s4⟩, by omega, by omega, by go_num, by go_num, by rw [List.length_set, hcur], ?_, HDR.out _, RS, GS⟩
            show _ = _
            rw [HST.out, ← HT.out, List.take_succ_eq_append_getElem (by rw [List.length_set]; exact hic), List.getElem_set_self, List.take_set_of_le (Nat.le_refl _)]
            rfl
          case measure => simp [intOf]; omega
        · go_wp2_with fail
          go_roundw
          case rel =>
            refine ⟨i, j + 1, cur, by omega, by omega, by go_num, by go_num, hcur, ?_, HDR0.out, R2, G2⟩
            show _ = _
            rw [HST.out, ← HT.out]; simp
          case measure => simp [intOf]; omega
      · obtain rfl : j = l.length := by omega
        have hcap : ¬ c = i := by omega
        have hclr := fun ty => run_clear_st wr ty g i (l.length - i) (c - i) cur HR'.out (by omega) (by omega)
        have ht2 := HT.out
        rw [List.take_length] at ht2
        have hfl : i = (l.filter (fun s => !p s)).length := by rw [← ht2, List.length_take]; omega
        have HFL := Lib.hid hfl
        have HT2 := Lib.hid ht2
        have RF : Hid (RowS (wr.setCells g (i * 4) (zst (l.length - i))) (.slice (some ⟨g, 0, none⟩) i c) (l.filter (fun s => !p s))) := by
          show RowS _ _ _
          rw [← HT2.out]
          have hl' : (cur.take i).length = i := by rw [List.length_take]; omega
          refine ⟨_, _, by rw [hl'], by omega, ⟨by omega, HM.out⟩, fun _ => ⟨g, 0, rfl, fun q hq => ?_⟩⟩
          rw [hl'] at hq
          rw [Nat.zero_add, List.getElem_take]
          obtain ⟨⟨b0, b1, b2, b3⟩, -⟩ := HR'.out q (by omega)
          have hout : ∀ r, r < 4 → (wr.setCells g (i * 4) (zst (l.length - i))).cell? ⟨g, q * 4 + r, none⟩ = wr.cell? ⟨g, q * 4 + r, none⟩ := fun r hr => World.cell?_setCells_out g _ (i * 4) wr _ (fun _ _ => .inl (by show q * 4 + r < i * 4; omega))
          exact ⟨(hout 0 (by omega)).trans b0, (hout 1 (by omega)).trans b1, (hout 2 (by omega)).trans b2, (hout 3 (by omega)).trans b3⟩
        have GF := Lib.hid (HG.out.trans (grown_setCells g (zst (l.length - i)) (i * 4) wr))
        clear ht2 hfl
        go_wp2_with fail
        exact bodyPost_ret (v := .slice (some ⟨g, 0, none⟩) i c) (by simp [results, Try.results68, go_sem]) rfl ⟨i, rfl, HFL.out, RF.out, GF.out⟩
/-- DeleteFunc over a row that the caller owns. -/
theorem del_any (base : Nat) (f : FuncId) (caps : Array Value) (p : St → Bool) (l : List St) (u : Value) (w : World) (hf : ∀ args w, (callFunc f args).run Try.prog w = .ok (.enter f args) w) (how : OwnS base w u l) (hl : l.length ≤ 900) (hb : base ≤ w.heap.size)
    (hcl : ∀ s W, Below base w W → Calls Try.prog f (#[Stv s] ++ caps) W (Back (.bool (p s)) W)) :
    Calls Try.prog 68 #[u, .func (.func f) #[] caps] w fun e w' => (∃ v', e = .returned v' ∧ RowS w' v' (l.filter (fun s => !p s))) ∧ Below base w w' := by
  rcases how.2 with ⟨rfl, h0⟩ | ⟨g, c, cur, rfl, hbg, hg, hlc, hcm, -⟩
  · have hl0 : l = [] := List.length_eq_zero_iff.1 h0
    subst hl0
    have RS : RowS w (.slice none 0 0) [] := ⟨none, 0, rfl, Nat.le_refl _, ⟨by simp, by unfold maxLen; omega⟩, fun h => absurd rfl h⟩
    have H93 := Lib.hid (idxS f caps p [] _ w hf RS (fun s W hW => hcl s W (hW.mono hb)))
    have e1 : fidx p ([] : List St) = -1 := rfl
    rw [e1] at H93
    have HRS := Lib.hid RS
    clear RS e1 hcl how h0
    go_enter Try.func68, Try.ntmps68
    go_wp2_with (go_at_call 93; refine H93.out.mono ?_; rintro e w1 ⟨rfl, hb1⟩; have HB := Lib.hid hb1; clear hb1)
    exact bodyPost_ret (v := .slice none 0 0) (by simp [results, Try.results68, go_sem]) rfl ⟨⟨_, rfl, HRS.out.up HB.out⟩, HB.out.mono hb⟩
  · have hgl := (Array.getElem?_eq_some_iff.1 hg).1
    have hrow := RowW.of_own how
    refine (del68 f caps p l g c w hf hrow hl hlc hcm (fun s W hW => hcl s W ((Below.refl base w).grown hW hb (fun k e => by injection e with e; omega)))).mono ?_
    rintro e w' ⟨n, rfl, -, hr, hgw⟩
    exact ⟨⟨_, rfl, hr⟩, (Below.refl base w).grown hgw hb (fun k e => by injection e with e; omega)⟩
end Go.Proofs.Ytomcpgdpjpjioaa
