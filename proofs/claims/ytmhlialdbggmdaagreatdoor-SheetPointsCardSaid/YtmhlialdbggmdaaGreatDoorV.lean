/- Contract: Count. -/
import Derived.Test.YtmhlialdbggmdaaGreatDoorU
import Derived.Deep.Cut
namespace Go.Proofs.YtmhlialdbggmdaaGreatDoor
open Go.RowKit Go.Proofs Go.Shelf

/-- How many of the first lim are nearer than far, from the first one on. -/
def ptsN (l : List St) (d : List Nat) (lim : Nat) (far : Int) : Nat := ((d.take lim).takeWhile fun i => decide (sqAt l i < far)).length
/-- Who counts, by the order d. -/
def cntT (l : List St) (d : List Nat) : Int × Int :=
  match d with
  | [] => (-1, 0)
  | a :: _ =>
    if fidx (fun i => teamAt l i != teamAt l a) d < 0 then (teamAt l a, (d.length : Nat)) else
      if ptsN l d (fidx (fun i => teamAt l i != teamAt l a) d).toNat (sqAt l (d.getD (fidx (fun i => teamAt l i != teamAt l a) d).toNat 0)) = 0 then (-1, 0)
      else (teamAt l a, (ptsN l d (fidx (fun i => teamAt l i != teamAt l a) d).toNat (sqAt l (d.getD (fidx (fun i => teamAt l i != teamAt l a) d).toNat 0)) : Nat))
abbrev cntV (p : Int × Int) : Value := .tuple #[.int .i64 p.1, .int .i64 p.2, .int .i64 0]

theorem ptsN_at {l : List St} {d : List Nat} {lim k : Nat} {far : Int} (hl : lim ≤ d.length) (hk : k ≤ lim) (h1 : ∀ j (hj : j < d.length), j < k → sqAt l (d[j]'hj) < far)
    (h2 : k = lim ∨ ∃ h : k < d.length, ¬ sqAt l (d[k]'h) < far) : ptsN l d lim far = k := by
  unfold ptsN
  obtain ⟨p, hp⟩ : ∃ p : Nat → Bool, (fun i => decide (sqAt l i < far)) = p := ⟨_, rfl⟩
  have hp1 : ∀ j (hj : j < d.length), j < k → p (d[j]'hj) = true := fun j hj h => by rw [← hp]; exact decide_eq_true (h1 j hj h)
  have hp2 : k = lim ∨ ∃ h : k < d.length, p (d[k]'h) = false := h2.imp_right fun ⟨h, h3⟩ => ⟨h, by rw [← hp]; exact decide_eq_false h3⟩
  rw [hp]
  clear hp h1 h2
  induction d generalizing lim k with
  | nil => simp at hl; subst hl; simp; omega
  | cons a d ih =>
    cases lim with
    | zero => simp; omega
    | succ lim =>
      rw [List.take_succ_cons]
      cases k with
      | zero =>
        rcases hp2 with h | ⟨h, h3⟩
        · omega
        · simp only [List.getElem_cons_zero] at h3
          rw [List.takeWhile_cons_of_neg (by simp [h3])]; rfl
      | succ k =>
        have h0 := hp1 0 (by simp) (by omega)
        simp only [List.getElem_cons_zero] at h0
        rw [List.takeWhile_cons_of_pos h0, List.length_cons]
        congr 1
        refine ih (lim := lim) (k := k) (by simpa using hl) (by omega) (fun j hj h => ?_) ?_
        · have := hp1 (j + 1) (by simp; omega) (by omega)
          simpa using this
        · rcases hp2 with h | ⟨h, h3⟩
          · exact .inl (by omega)
          · exact .inr ⟨by simpa using h, by simpa using h3⟩

set_option maxRecDepth 100000 in
set_option maxHeartbeats 4000000 in
theorem Count_any (l : List St) (v : Value) (w : World) (hrow : RowS w v l) :
    Calls Tryz.prog 30 #[v] w fun e w' => ((chkB l = false ∧ e = .returned (.tuple #[.int .i64 0, .int .i64 0, .int .i64 2])) ∨ (chkB l = true ∧ ∃ d, IsNear l d ∧ e = .returned (cntV (cntT l d)))) ∧ Below w.heap.size w w' := by
  have H1 := Lib.hid (fun w h => Check_any l v w h)
  obtain ⟨A, cap, rfl⟩ := hrow.form
  obtain ⟨w0, hw0⟩ : ∃ w0, (w.alloc (.cells #[.slice A l.length cap] 30)).alloc (.cells #[.int .i64 0] 3) = w0 := ⟨_, rfl⟩
  have X0 : Hid (Below w.heap.size w w0) := by show Below _ _ _; rw [← hw0]; exact ((Below.refl _ _).alloc (Nat.le_refl _) _).alloc (by simp) _
  have HR : Hid (RowS w0 (.slice A l.length cap) l) := hrow.up X0.out
  have c0 : w0.cell? ⟨w.heap.size, 0, none⟩ = some (.slice A l.length cap) := by rw [← hw0]; simp [go_sem]
  have c1 : w0.cell? ⟨w.heap.size + 1, 0, none⟩ = some (.int .i64 0) := by rw [← hw0]; simp [go_sem]
  have f1 : w0.frozen? ⟨w.heap.size + 1, 0, none⟩ = false := by rw [← hw0]; simp [go_sem]
  have HR0 := Lib.hid hrow
  clear hrow
  cases hc : chkB l
  · rw [hc] at H1
    go_enter Tryz.func30, Tryz.ntmps30
    go_wp2_with (go_at_call 28; refine (H1.out _ HR.out).mono ?_; rintro e w1 ⟨rfl, hb1⟩; have d1 := upc c1 hb1; have g1 := (hb1.frozen (p := ⟨w.heap.size + 1, 0, none⟩) (lt_cell c1)).trans f1)
    refine bodyPost_ret (v := .tuple #[.int .i64 0, .int .i64 0, .int .i64 2]) (by simp [results, Tryz.results30, go_sem, World.cell?_setCell_same _ _ _ d1]) rfl ⟨.inl ⟨by first | rfl | trivial, rfl⟩, ?_⟩
    exact (X0.out.trans (hb1.mono X0.out.size)).setCell (p := ⟨w.heap.size + 1, 0, none⟩) (by simp) _
  · rw [hc] at H1
    have H2 := Lib.hid (fun w h => nearest_chk l (.slice A l.length cap) w h hc)
    have HF := Lib.hid (chk_facts hc)
    clear hc
    go_enter Tryz.func30, Tryz.ntmps30
    go_upto_region 4 with (first
      | (go_at_call 28; refine (H1.out _ HR.out).mono ?_; rintro e w1 ⟨rfl, hb1⟩; replace c0 := upc c0 hb1; replace f1 := (hb1.frozen (p := ⟨w.heap.size + 1, 0, none⟩) (lt_cell c1)).trans f1; replace c1 := upc c1 hb1; have hlt1 := lt_cell c1; replace X0 := Lib.hid (X0.out.trans (hb1.mono X0.out.size)); replace HR := Lib.hid (HR.out.up hb1); clear hb1)
      | (go_at_call 65; refine (H2.out _ HR.out).mono ?_; rintro e w2 ⟨u, d, rfl, hn, ho, hb2⟩; have HO := Lib.hid ho; obtain ⟨A2, cap2, rfl⟩ := ho.form; clear ho; replace c0 := upc c0 hb2; replace f1 := (hb2.frozen (p := ⟨w.heap.size + 1, 0, none⟩) (lt_cell c1)).trans f1; replace c1 := upc c1 hb2; replace X0 := Lib.hid (X0.out.trans (hb2.mono X0.out.size)); replace HR := Lib.hid (HR.out.up hb2); clear hb2))
    cases d with
    | nil =>
      go_wp2_with fail
      refine bodyPost_ret (v := .tuple #[.int .i64 (-1), .int .i64 0, .int .i64 0]) (by simp [results, Tryz.results30, go_sem, World.cell?_setCell_same _ _ _ c1]) rfl ⟨.inr ⟨by first | rfl | trivial, [], hn, rfl⟩, ?_⟩
      exact X0.out.setCell (p := ⟨w.heap.size + 1, 0, none⟩) (by simp) _
    | cons a ds =>
      obtain ⟨d, hd⟩ : ∃ d, a :: ds = d := ⟨_, rfl⟩
      rw [hd] at hn HO ⊢
      obtain ⟨A3, cap3, he3, hlc, hcm, -, hg⟩ := HO.out
      injection he3 with e1 e2 e3
      subst e1 e3
      obtain ⟨g, rfl, hgb, hI⟩ := hg (by rw [← hd]; simp)
      have hdl : ∀ x ∈ d, x < l.length := by
        intro x hx
        have := hn.1.mem_iff.1 hx
        unfold hIdx at this
        rw [List.mem_map] at this
        obtain ⟨y, hy, rfl⟩ := this
        exact (hsK_lt hy).1
      have hd16 : d.length ≤ 16 := by
        rw [hn.1.length_eq]; unfold hIdx; rw [List.length_map]
        have := hsK_len l l.length; have := HF.out.1; omega
      have hd0 : 0 < d.length := by rw [← hd]; simp
      have hal : a < l.length := hdl a (by rw [← hd]; simp)
      have ga := (hI 0 hd0)
      have e0 : d[0]'hd0 = a := by subst hd; rfl
      rw [e0] at ga
      obtain ⟨A4, cap4, he4, hlc4, ⟨hcap4, -⟩, hcells⟩ := HR.out
      injection he4 with e1 _ e3
      subst e1 e3
      obtain ⟨b, o, rfl, hc⟩ := hcells (by intro h; subst h; simp at hal)
      have hta : (l[a]'hal).t = teamAt l a := by unfold teamAt; rw [List.getElem?_eq_getElem hal]
      have gt := (hc a hal).1
      rw [hta] at gt
      obtain ⟨t, ht⟩ : ∃ t, teamAt l a = t := ⟨_, rfl⟩
      have HT := Lib.hid ht
      rw [ht] at gt
      have hal' : (a : Int) < (l.length : Int) := by omega
      have hd0' : (0 : Int) < (d.length : Int) := by omega
      have ga1 := ga.1
      have HN := Lib.hid hn
      have HD := Lib.hid hd
      have HDL := Lib.hid hdl
      have HI := Lib.hid hI
      have HCE := Lib.hid hc
      have hne : g ≠ w.heap.size + 1 := by omega
      have c1' : w2.drew.cell? ⟨w.heap.size + 1, 0, none⟩ = some (.int .i64 0) := c1
      have f1' : w2.drew.frozen? ⟨w.heap.size + 1, 0, none⟩ = false := f1
      have c0' : w2.drew.cell? ⟨w.heap.size, 0, none⟩ = some (.slice (some ⟨b, o, none⟩) l.length cap) := c0
      have ga' : w2.drew.cell? ⟨g, 0, none⟩ = some (.int .i64 (a : Nat)) := ga1
      have gt' : w2.drew.cell? ⟨b, o + a * 4, none⟩ = some (.int .i64 t) := gt
      clear hn hd hdl hI hcells hc ht hta ga e0
      go_wp2_with fail
      go_region
      obtain ⟨W5, hW5⟩ : ∃ W5, (w2.setCell ⟨w.heap.size + 1, 0, none⟩ (.int .i64 t)).drew = W5 := ⟨_, rfl⟩
      have X5 : Hid (Below w.heap.size w W5) := by show Below _ _ _; rw [← hW5]; exact (X0.out.setCell (p := ⟨w.heap.size + 1, 0, none⟩) (by simp) _).drew
      have I5 : Hid (RowI W5 g d) := by show RowI _ _ _; rw [← hW5]; exact HI.out.heap (Below.heap_setCell _ _ _ _ hne)
      have z0 : W5.cell? ⟨w.heap.size, 0, none⟩ = some (.slice (some ⟨b, o, none⟩) l.length cap) := by rw [← hW5]; exact (World.cell?_setCell_other _ _ _ _ (by simp)).trans c0
      have z1 : W5.cell? ⟨w.heap.size + 1, 0, none⟩ = some (.int .i64 t) := by rw [← hW5]; exact World.cell?_setCell_same _ _ _ c1
      have y1 : W5.frozen? ⟨w.heap.size + 1, 0, none⟩ = false := by rw [← hW5]; exact (World.frozen?_setCell _ _ _ _).trans f1
      have HIX : Hid (Calls Tryz.prog 66 #[.slice (some ⟨g, 0, none⟩) d.length cap2, .func (.func 67) #[] #[.pointer (some ⟨w.heap.size, 0, none⟩), .pointer (some ⟨w.heap.size + 1, 0, none⟩)]] W5 (Back (.int .i64 (fidx (fun i => teamAt l i != t) d)) W5)) := by
        refine idxN 67 _ (fun i => teamAt l i != t) d w1.heap.size _ W5 (enters_of Tryz.func67 (by kernel_rfl) rfl) ⟨_, cap2, rfl, hlc, hcm, (fun h => by cases h), fun _ => ⟨g, rfl, hgb, I5.out⟩⟩ (by omega) ?_
        intro x hx W hW
        exact cl67 _ _ l _ x t W (upc z0 hW) (upc z1 hW) (HR0.out.up (X5.out.trans (hW.mono X5.out.size))) (HDL.out x hx)
      have hmf : ∀ (fn : Fn) (first cap : Array Value) (w : World), (Instr.makeFunc fn first cap).run Tryz.prog w = .ok (.func fn first cap) w := fun _ _ _ _ => rfl
      have hcnt : cntT l d = (if fidx (fun i => teamAt l i != t) d < 0 then (t, ((d.length : Nat) : Int)) else
        if ptsN l d (fidx (fun i => teamAt l i != t) d).toNat (sqAt l (d.getD (fidx (fun i => teamAt l i != t) d).toNat 0)) = 0 then (-1, 0)
        else (t, (ptsN l d (fidx (fun i => teamAt l i != t) d).toNat (sqAt l (d.getD (fidx (fun i => teamAt l i != t) d).toNat 0)) : Nat))) := by
        rw [← HT.out, ← HD.out]; rfl
      have hfb : fidx (fun i => teamAt l i != t) d < (d.length : Int) := by unfold fidx; split <;> omega
      obtain ⟨m, hm⟩ : ∃ m, fidx (fun i => teamAt l i != t) d = m := ⟨_, rfl⟩
      rw [hm] at HIX hcnt hfb
      have HCNT := Lib.hid hcnt
      clear hm hcnt c1' f1' c0' ga' gt' c0 c1 f1 ga1 gt HI HCE HR H1 H2
      have hre : ∀ (K : Prop), K → K := fun _ h => h
      by_cases hm0 : m < 0
      · have hv : Hid (cntT l d = (t, ((d.length : Nat) : Int))) := by show _ = _; rw [HCNT.out, if_pos hm0]
        all_goals
          try rw [hW5]
          go_wp2_with (go_at_call 66; (try rw [hW5]); refine HIX.out.mono ?_; rintro e w6 ⟨rfl, hb6⟩; have x1 := upc z1 hb6; have x2 := (hb6.frozen (p := ⟨w.heap.size + 1, 0, none⟩) (lt_cell z1)).trans y1; have X6 := Lib.hid (X5.out.trans (hb6.mono X5.out.size)))
          refine bodyPost_ret (v := .tuple #[.int .i64 t, .int .i64 (d.length : Nat), .int .i64 0]) (by simp [results, Tryz.results30, go_sem, World.cell?_setCell_same _ _ _ x1]) rfl ⟨.inr ⟨by first | rfl | trivial, d, HN.out, by rw [hv.out]⟩, ?_⟩
          exact X6.out.setCell (p := ⟨w.heap.size + 1, 0, none⟩) (by simp) _
      · obtain ⟨lim, rfl⟩ := Int.eq_ofNat_of_zero_le (show 0 ≤ m by omega)
        have hlim : lim < d.length := by omega
        obtain ⟨j, hj⟩ : ∃ j, d[lim]'hlim = j := ⟨_, rfl⟩
        have hjl : j < l.length := HDL.out j (by rw [← hj]; exact List.getElem_mem _)
        have hgd : d.getD lim 0 = j := by rw [List.getD_eq_getElem?_getD, List.getElem?_eq_getElem hlim, hj]; rfl
        have hcn := HCNT.out
        rw [Int.toNat_natCast, hgd] at hcn
        replace HCNT := Lib.hid hcn
        obtain ⟨far, hfar⟩ : ∃ far, sqAt l j = far := ⟨_, rfl⟩
        rw [hfar] at HCNT
        have hst : ∀ x, x < l.length → ∃ s : St, sqAt l x = sqd s.x s.y ∧ Play s.x s.y ∧ ∀ W, Below w.heap.size w W → At4 W b (o + x * 4) s := by
          intro x hx
          refine ⟨l[x]'hx, sqAt_get hx, (HF.out.2 x hx).2.2, fun W hW => ?_⟩
          obtain ⟨A9, cap9, h9, -, -, h10⟩ := HR0.out.up hW
          injection h9 with e1 _ e3
          obtain ⟨b9, o9, h11, h12⟩ := h10 (by intro h; subst h; simp at hx)
          rw [← e1] at h11
          injection h11 with h11
          injection h11 with h13 h14
          subst h13 h14
          exact h12 x hx
        have HST := Lib.hid hst
        obtain ⟨s, hs1, hs2, hs3⟩ := hst j hjl
        obtain ⟨s1, s2, s3, s4⟩ := s
        have H68 : Hid (∀ w, Calls Tryz.prog 68 #[.agg #[.int .i64 s3, .int .i64 s4]] w (Back (.int .i64 far) w)) := fun w => by rw [← hfar, hs1]; exact square_any s3 s4 w (sqd_bound hs2)
        have HS3 := Lib.hid hs3
        have hjl' : (j : Int) < (l.length : Int) := by omega
        have hlim' : (lim : Int) < (d.length : Int) := by omega
        have hj6 := (I5.out lim hlim).1
        rw [hj] at hj6
        have HJ := Lib.hid hj
        clear hst hs1 hs2 hs3 hcn hgd hfar hj
        go_upto_region 10 with (go_at_call 66; (try rw [hW5]); refine HIX.out.mono ?_; rintro e w6 ⟨rfl, hb6⟩; replace z0 := upc z0 hb6; replace y1 := (hb6.frozen (p := ⟨w.heap.size + 1, 0, none⟩) (lt_cell z1)).trans y1; replace z1 := upc z1 hb6; replace X5 := Lib.hid (X5.out.trans (hb6.mono X5.out.size)); replace I5 := Lib.hid (I5.out.up hb6); replace hj6 := upc hj6 hb6; clear hb6)
        have q0 : ∀ X : BW w6, X.to.cell? ⟨w.heap.size, 0, none⟩ = some (.slice (some ⟨b, o, none⟩) l.length cap) := fun X => upc z0 X.same
        have q1 : ∀ X : BW w6, X.to.cell? ⟨g, lim, none⟩ = some (.int .i64 (j : Nat)) := fun X => upc hj6 X.same
        have q2 : ∀ X : BW w6, X.to.cell? ⟨b, o + j * 4 + 2, none⟩ = some (.int .i64 s3) := fun X => (HS3.out X.to (X5.out.trans (X.same.mono X5.out.size))).2.2.1
        have q3 : ∀ X : BW w6, X.to.cell? ⟨b, o + j * 4 + 3, none⟩ = some (.int .i64 s4) := fun X => (HS3.out X.to (X5.out.trans (X.same.mono X5.out.size))).2.2.2
        refine wp_region_quietB (by kernel_rfl) (by kernel_rfl) ?_
        repeat (go_big_quiet_step ((go_at_call 68; exact quietB (H68.out _))))
        refine wpQuiet_nil ?_
        rintro wy ⟨⟨wy', hby⟩, rfl⟩
        have z0y := upc z0 hby
        have z1y := upc z1 hby
        have y1y := (hby.frozen (p := ⟨w.heap.size + 1, 0, none⟩) (lt_cell z1)).trans y1
        have Xy : Hid (Below w.heap.size w wy) := X5.out.trans (hby.mono X5.out.size)
        have Iy : Hid (RowI wy g d) := I5.out.up hby
        clear q0 q1 q2 q3 hby z0 z1 y1 X5 I5 hj6 HIX H68 HS3
        go_wp2_with fail
        go_loopw [3] (fun kv wr => ∃ k : Nat, k ≤ lim ∧ kv = .int .i64 k ∧ Hid (∀ i (hi : i < d.length), i < k → sqAt l (d[i]'hi) < far) ∧ Hid (Below wy.heap.size wy wr)) (fun kv _ => lim - (intOf kv).toNat)
        case atStart => exact ⟨0, by omega, rfl, fun i hi h => by omega, Below.refl _ _⟩
        case round =>
          obtain ⟨k, hk, rfl, hnr, hb⟩ := hrel
          have HNR := Lib.hid hnr.out
          have HB := Lib.hid hb.out
          clear hnr hb
          have k0 := upc z0y HB.out
          have k1 := upc z1y HB.out
          have kf := (HB.out.frozen (p := ⟨w.heap.size + 1, 0, none⟩) (lt_cell z1y)).trans y1y
          have XK : Hid (Below w.heap.size w wr) := Xy.out.trans (HB.out.mono Xy.out.size)
          by_cases hkl : k < lim
          · have hkl' : (k : Int) < (lim : Int) := by omega
            have hkd : k < d.length := by omega
            have hkd' : (k : Int) < (d.length : Int) := by omega
            obtain ⟨x, hx⟩ : ∃ x, d[k]'hkd = x := ⟨_, rfl⟩
            have hxl : x < l.length := HDL.out x (by rw [← hx]; exact List.getElem_mem _)
            have hxl' : (x : Int) < (l.length : Int) := by omega
            obtain ⟨u, hu1, hu2, hu3⟩ := HST.out x hxl
            obtain ⟨u1, u2, u3, u4⟩ := u
            obtain ⟨q, hq⟩ : ∃ q, sqAt l x = q := ⟨_, rfl⟩
            have HQ := Lib.hid hq
            have HX := Lib.hid hx
            have H68 : Hid (∀ w, Calls Tryz.prog 68 #[.agg #[.int .i64 u3, .int .i64 u4]] w (Back (.int .i64 q) w)) := fun w => by rw [← hq, hu1]; exact square_any u3 u4 w (sqd_bound hu2)
            have gx := ((Iy.out.up HB.out) k hkd).1
            rw [hx] at gx
            have q0 : ∀ X : BW wr, X.to.cell? ⟨w.heap.size, 0, none⟩ = some (.slice (some ⟨b, o, none⟩) l.length cap) := fun X => upc k0 X.same
            have q1 : ∀ X : BW wr, X.to.cell? ⟨g, k, none⟩ = some (.int .i64 (x : Nat)) := fun X => upc gx X.same
            have q2 : ∀ X : BW wr, X.to.cell? ⟨b, o + x * 4 + 2, none⟩ = some (.int .i64 u3) := fun X => (hu3 X.to (XK.out.trans (X.same.mono XK.out.size))).2.2.1
            have q3 : ∀ X : BW wr, X.to.cell? ⟨b, o + x * 4 + 3, none⟩ = some (.int .i64 u4) := fun X => (hu3 X.to (XK.out.trans (X.same.mono XK.out.size))).2.2.2
            clear hu1 hu2 hu3 hq hx gx
            by_cases hqf : q < far
            · have HNX : Hid (∀ i (hi : i < d.length), i < k + 1 → sqAt l (d[i]'hi) < far) := by
                intro i hi h
                by_cases e : i = k
                · subst e; rw [HX.out, HQ.out]; exact hqf
                · exact HNR.out i hi (by omega)
              go_wp2_with fail
              refine wp_region_quietB (by kernel_rfl) (by kernel_rfl) ?_
              repeat (go_big_quiet_step ((go_at_call 68; exact quietB (H68.out _))))
              refine wpQuiet_nil ?_
              rintro wz ⟨⟨wz', hbz⟩, rfl⟩
              go_wp2_with fail
              go_roundw
              case rel => exact ⟨k + 1, by omega, by go_num, HNX, HB.out.trans (hbz.mono HB.out.size)⟩
              case measure => simp [intOf]; omega
            · have PT : Hid (ptsN l d lim far = k) := ptsN_at (by omega) hk HNR.out (.inr ⟨hkd, by rw [HX.out, HQ.out]; exact hqf⟩)
              go_wp2_with fail
              refine wp_region_quietB (by kernel_rfl) (by kernel_rfl) ?_
              repeat (go_big_quiet_step ((go_at_call 68; exact quietB (H68.out _))))
              refine wpQuiet_nil ?_
              rintro wz ⟨⟨wz', hbz⟩, rfl⟩
              replace kf := (hbz.frozen (p := ⟨w.heap.size + 1, 0, none⟩) (lt_cell k1)).trans kf
              replace k1 := upc k1 hbz
              have XF : Hid (Below w.heap.size w wz) := XK.out.trans (hbz.mono XK.out.size)
              clear q0 q1 q2 q3 k0
              by_cases hk0 : k = 0
              · subst hk0
                have hv : Hid (cntT l d = (-1, 0)) := by show _ = _; rw [HCNT.out, if_neg (by omega), if_pos (by rw [PT.out])]
                go_wp2_with fail
                refine bodyPost_ret (v := .tuple #[.int .i64 (-1), .int .i64 0, .int .i64 0]) (by simp [results, Tryz.results30, go_sem, World.cell?_setCell_same _ _ _ k1]) rfl ⟨.inr ⟨by first | rfl | trivial, d, HN.out, by rw [hv.out]⟩, ?_⟩
                exact XF.out.setCell (p := ⟨w.heap.size + 1, 0, none⟩) (by simp) _
              · have hv : Hid (cntT l d = (t, ((k : Nat) : Int))) := by show _ = _; rw [HCNT.out, if_neg (by omega), if_neg (by rw [PT.out]; exact hk0), PT.out]
                have hk0' : ((k : Int) == 0) = false := by simpa using hk0
                go_wp2_with fail
                refine bodyPost_ret (v := .tuple #[.int .i64 t, .int .i64 (k : Nat), .int .i64 0]) (by simp [results, Tryz.results30, go_sem, World.cell?_setCell_same _ _ _ k1]) rfl ⟨.inr ⟨by first | rfl | trivial, d, HN.out, by rw [hv.out]⟩, ?_⟩
                exact XF.out.setCell (p := ⟨w.heap.size + 1, 0, none⟩) (by simp) _
          · obtain rfl : k = lim := by omega
            have PT : Hid (ptsN l d k far = k) := ptsN_at (by omega) (Nat.le_refl _) HNR.out (.inl rfl)
            have hkk : ¬ (k : Int) < (k : Int) := by omega
            go_wp2_with fail
            go_quiet (fail)
            rename_i nq
            have XF : Hid (Below w.heap.size w (wr.drewN nq)) := below_drewN XK.out _
            replace k1 : (wr.drewN nq).cell? ⟨w.heap.size + 1, 0, none⟩ = some (.int .i64 t) := k1
            replace kf : (wr.drewN nq).frozen? ⟨w.heap.size + 1, 0, none⟩ = false := kf
            by_cases hk0 : k = 0
            · subst hk0
              have hv : Hid (cntT l d = (-1, 0)) := by show _ = _; rw [HCNT.out, if_neg (by omega), if_pos (by rw [PT.out])]
              go_wp2_with fail
              refine bodyPost_ret (v := .tuple #[.int .i64 (-1), .int .i64 0, .int .i64 0]) (by simp [results, Tryz.results30, go_sem, World.cell?_setCell_same _ _ _ k1]) rfl ⟨.inr ⟨by first | rfl | trivial, d, HN.out, by rw [hv.out]⟩, ?_⟩
              exact XF.out.setCell (p := ⟨w.heap.size + 1, 0, none⟩) (by simp) _
            · have hv : Hid (cntT l d = (t, ((k : Nat) : Int))) := by show _ = _; rw [HCNT.out, if_neg (by omega), if_neg (by rw [PT.out]; exact hk0), PT.out]
              have hk0' : ((k : Int) == 0) = false := by simpa using hk0
              go_wp2_with fail
              refine bodyPost_ret (v := .tuple #[.int .i64 t, .int .i64 (k : Nat), .int .i64 0]) (by simp [results, Tryz.results30, go_sem, World.cell?_setCell_same _ _ _ k1]) rfl ⟨.inr ⟨by first | rfl | trivial, d, HN.out, by rw [hv.out]⟩, ?_⟩
              exact XF.out.setCell (p := ⟨w.heap.size + 1, 0, none⟩) (by simp) _
end Go.Proofs.YtmhlialdbggmdaaGreatDoor
