/- Contract of the document's SameRuling, on rulings that are the same. Plain: rules and what they ask. -/
import Derived.Test.YtomcpgdpjpjioaaFl
import Derived.Test.YtomcpgdpjpjioaaFk
import Derived.Test.YtomcpgdpjpjioaaJu
namespace Go.Proofs.Ytomcpgdpjpjioaa
open Go.RowKit Go.Proofs Go.Shelf
attribute [local go_sem] Oper.semAt_some

theorem oP_at {L1 L2 : List Oc} (h : L1.map oP = L2.map oP) (k : Nat) (h1 : k < L1.length) (h2 : k < L2.length) : samO (L1[k]'h1) (L2[k]'h2) = true := by
  have e : (L1.map oP)[k]? = (L2.map oP)[k]? := by rw [h]
  rw [List.getElem?_map, List.getElem?_map, List.getElem?_eq_getElem h1, List.getElem?_eq_getElem h2] at e
  simp only [Option.map_some, Option.some.injEq] at e
  unfold oP at e
  injection e with e1 e2
  exact (samO_iff _ _).2 ⟨e2, e1⟩
set_option maxRecDepth 100000 in
set_option maxHeartbeats 4000000 in
theorem same21 (r ch : Int) (v u : Value) (b1 b2 : Nat) (P : List Pr) (w : World) (h1 : RulAt w b1 v P) (h2 : RulAt w b2 u P) : Calls Try.prog 21 #[Rlv r ch v, Rlv r ch u] w (Back (.bool true) w) := by
  obtain ⟨A1, c1, L1, rfl, ⟨A1', cap1, he1, hlc1, ⟨hcap1, hcm1⟩, hr1⟩, hg1, hm1, -⟩ := h1
  obtain ⟨A2, c2, L2, rfl, ⟨A2', cap2, he2, hlc2, ⟨-, hcm2⟩, hr2⟩, hg2, hm2, -⟩ := h2
  injection he1 with ea1 _ ec1
  injection he2 with ea2 _ ec2
  subst ea1 ec1 ea2 ec2
  have hlen : L2.length = L1.length := by
    have e := congrArg List.length (hm2.trans hm1.symm)
    simpa using e
  have HR1 := Lib.hid hr1
  have HR2 := Lib.hid hr2
  have HG1 := Lib.hid hg1
  have HG2 := Lib.hid hg2
  have HMM := Lib.hid (hm1.trans hm2.symm)
  obtain ⟨n, hn⟩ : ∃ n, L1.length = n := ⟨_, rfl⟩
  rw [hlen] at hlc2
  rw [hn] at hlen hlc1 hlc2 hcap1
  rw [hlen, hn]
  have HN := Lib.hid hn
  have HLN := Lib.hid hlen
  have K0 : Hid (∀ W, W = ((w.alloc (.cells #[.int .i64 r, .int .i64 ch, .slice A1 n c1] 40)).alloc (.cells #[.int .i64 r, .int .i64 ch, .slice A2 n c2] 40)) → Below w.heap.size w W ∧ R3 W w.heap.size r ch (.slice A1 n c1) ∧ R3 W (w.heap.size + 1) r ch (.slice A2 n c2)) := by
    rintro W rfl
    have b0 : Below w.heap.size w (w.alloc (.cells #[.int .i64 r, .int .i64 ch, .slice A1 n c1] 40)) := (Below.refl _ _).alloc (Nat.le_refl _) _
    have k1 := R3.new w r ch (.slice A1 n c1)
    have k2 := R3.new (w.alloc (.cells #[.int .i64 r, .int .i64 ch, .slice A1 n c1] 40)) r ch (.slice A2 n c2)
    simp only [World.size_alloc] at k2
    exact ⟨b0.alloc (by simp) _, k1.kept (World.grownBy_alloc _ _ none) (by simp), k2⟩
  clear hr1 hr2 hg1 hg2 hm1 hm2 hn hlen
  go_enter Try.func21, Try.ntmps21
  go_upto_region 1 with fail
  generalize hwx : World.alloc (World.alloc w _) _ = wx
  obtain ⟨k1, k2, k3⟩ := K0.out wx hwx.symm
  have B := Lib.hid k1
  have J1 := Lib.hid k2
  have J2 := Lib.hid k3
  clear hwx K0 k1 k2 k3
  obtain ⟨⟨a0, a1, a2⟩, -⟩ := J1.out.cells
  obtain ⟨⟨d0, d1, d2⟩, -⟩ := J2.out.cells
  go_wp2_with fail
  clear a0 a1 a2 d0 d1 d2
  go_loopw [5] (fun iv wr => ∃ k : Nat, k ≤ n ∧ iv = .int .i64 k ∧ Hid (Below wx.heap.size wx wr)) (fun iv _ => n - (intOf iv).toNat)
  case atStart => exact ⟨0, by omega, rfl, Below.refl _ _⟩
  case round =>
    obtain ⟨k, hk, rfl, hb⟩ := hrel
    have HB := Lib.hid hb.out
    have J1' := Lib.hid (J1.out.up HB.out)
    have J2' := Lib.hid (J2.out.up HB.out)
    have BB := Lib.hid (B.out.trans (HB.out.mono B.out.size))
    clear hb
    obtain ⟨⟨a0, a1, a2⟩, -⟩ := J1'.out.cells
    obtain ⟨⟨d0, d1, d2⟩, -⟩ := J2'.out.cells
    by_cases hlt : k < n
    · have hlt' : (k : Int) < (n : Int) := by omega
      have hk1 : k < L1.length := by have := HN.out; omega
      have hk2 : k < L2.length := by have := HLN.out; omega
      obtain ⟨b, o, rfl, hc⟩ := HR1.out (by intro h; subst h; simp at hk1)
      obtain ⟨b', o', rfl, hc'⟩ := HR2.out (by intro h; subst h; simp at hk2)
      obtain ⟨p0, p1⟩ := (hc k hk1).up BB.out
      obtain ⟨q0, q1⟩ := (hc' k hk2).up BB.out
      have hs := oP_at HMM.out k hk1 hk2
      have hx1 := (HG1.out _ (List.getElem_mem hk1))
      have hx2 := (HG2.out _ (List.getElem_mem hk2))
      obtain ⟨x, hx⟩ : ∃ x, L1[k]'hk1 = x := ⟨_, rfl⟩
      obtain ⟨y, hy⟩ : ∃ x, L2[k]'hk2 = x := ⟨_, rfl⟩
      rw [hx] at p0 p1 hs hx1
      rw [hy] at q0 q1 hs hx2
      have H50 : Hid (∀ X : BW wr, Calls Try.prog 50 #[Ocv x, Ocv y] X.to (Back (.bool true) X.to)) := fun X => by rw [← hs]; exact Alike50 x y X.to ((hx1.1.up BB.out).up X.same) ((hx2.1.up BB.out).up X.same)
      obtain ⟨-, g1, n1, c1', hv1, -⟩ := hx1
      obtain ⟨-, g2, n2, c2', hv2, -⟩ := hx2
      obtain ⟨xv, xl, xg⟩ := x
      obtain ⟨yv, yl, yg⟩ := y
      simp only at hv1 hv2 p0 p1 q0 q1 H50
      subst hv1 hv2
      clear hx hy hs hc hc' a0 a1 d0 d1
      have A2' := Lib.hid a2
      go_upto_region 6 with fail
      have E0 := fun X : BW wr => upc p0 X.same
      have E1 := fun X : BW wr => upc p1 X.same
      have E2 := fun X : BW wr => upc q0 X.same
      have E3 := fun X : BW wr => upc q1 X.same
      have E4 := fun X : BW wr => upc a2 X.same
      have E5 := fun X : BW wr => upc d2 X.same
      clear p0 p1 q0 q1 a2 d2 A2'
      refine wp_region_quietB (by kernel_rfl) (by kernel_rfl) ?_
      repeat (go_big_quiet_step ((go_at_call 50; exact quietB (H50.out _))))
      refine wpQuiet_nil ?_
      rintro _ ⟨⟨wu, hbu⟩, rfl⟩
      have HB4 := Lib.hid (HB.out.trans (hbu.mono HB.out.size))
      clear E0 E1 E2 E3 E4 E5 hbu
      go_wp2_with fail
      go_roundw
      case rel => exact ⟨k + 1, by omega, by go_num, HB4⟩
      case measure => simp [intOf]; omega
    · obtain rfl : k = n := by omega
      clear a0 a1 d0 d1 d2
      go_wp2_with fail
      go_ret
      exact ⟨rfl, BB.out⟩
theorem ruleN_val (x : Th) (r m s : Bool) : ruleN x r m s = if x.late = true then 1 else if (x.how == 1) = true then 2 else if x.short = true then 3 else if (x.how == 3) = true then 4 else if (x.how == 2) = true then 5 else if (x.how == 4) = true then 6
    else if (r && !s) = true then 7 else if r = true then 8 else if m = true then 9 else 0 := by
  unfold ruleN
  rw [show List.range 9 = [0, 1, 2, 3, 4, 5, 6, 7, 8] from rfl]
  simp only [List.find?_cons, List.find?_nil, apL]
  cases x.late <;> cases (x.how == 1) <;> cases x.short <;> cases (x.how == 3) <;> cases (x.how == 2) <;> cases (x.how == 4) <;> cases r <;> cases s <;> cases m <;> rfl
theorem look_find {l : List St} (hd : dis l) (t n : Int) : lookT l t n = l.find? (isB t n) := by
  have H : ∀ k, k ≤ l.length → lookT (l.take k) t n = (l.take k).find? (isB t n) := by
    intro k
    induction k with
    | zero => intro _; simp [lookT]
    | succ k ih =>
      intro hk
      have hlt : k < l.length := by omega
      rw [List.take_succ_eq_append_getElem hlt, lookT_snoc, List.find?_append, ih (by omega)]
      by_cases h : eqK (l[k]'hlt).t (l[k]'hlt).n t n = true
      · rw [if_pos h]
        have h' := (eqK_iff _ _ _ _).1 h
        cases hf : (l.take k).find? (isB t n) with
        | none => simp [(isB_iff t n _).2 h']
        | some s' =>
          have h2 := List.mem_of_mem_take (List.mem_of_find?_eq_some hf)
          have h3 := (isB_iff _ _ _).1 (List.find?_some hf)
          rw [hd s' h2 _ (List.getElem_mem hlt) (by rw [h3.1, h'.1]) (by rw [h3.2, h'.2])]
          rfl
      · rw [if_neg h]
        have hb : isB t n (l[k]'hlt) = false := by
          cases e : isB t n (l[k]'hlt)
          · rfl
          · exact absurd ((eqK_iff _ _ _ _).2 ((isB_iff _ _ _).1 e)) h
        simp [hb]
  have := H l.length (Nat.le_refl _)
  rwa [List.take_length] at this
end Go.Proofs.Ytomcpgdpjpjioaa
