/- What the document's Judge has made. Contract of the document's SameRuling, on rulings that are the same. -/
import Derived.Test.YtomcpgdpjpjioaaFm
namespace Go.Proofs.Ytomcpgdpjpjioaa
open Go.RowKit Go.Proofs Go.Shelf

/-- What a ruling holds, in whatever memory. -/
def RulW (W : World) (v : Value) (P : List Pr) : Prop := ∃ A c L, v = .slice A (List.length L) c ∧ RowO W v L ∧ OcR W L ∧ L.map oP = P
theorem RulAt.rulW {W : World} {base : Nat} {v : Value} {P : List Pr} (h : RulAt W base v P) : RulW W v P := by
  obtain ⟨A, c, L, h1, h2, h3, h4, -⟩ := h
  exact ⟨A, c, L, h1, h2, h3.ocR, h4⟩
theorem RulW.up {W W' : World} {v : Value} {P : List Pr} (h : RulW W v P) (hb : Below W.heap.size W W') : RulW W' v P := by
  obtain ⟨A, c, L, h1, h2, h3, h4⟩ := h
  exact ⟨A, c, L, h1, h2.up hb, h3.up hb, h4⟩
theorem RulW.form {W : World} {v : Value} {P : List Pr} (h : RulW W v P) : ∃ A c, v = .slice A P.length c := by
  obtain ⟨A, c, L, h1, -, -, h4⟩ := h
  exact ⟨A, c, by rw [h1, ← h4, List.length_map]⟩
theorem RulW.nil (W : World) : RulW W (.slice none 0 0) [] := (RulAt.nil W 0).rulW
theorem own_form {base n : Nat} {u : Value} {L : List St} {W : World} (h : W.ownsRow base 53 4 u n (L.flatMap stC)) : ∃ A c, u = .slice A n c ∧ ∀ g o, A = some ⟨g, o, none⟩ → base ≤ g ∧ g < W.heap.size := by
  rcases h.2 with ⟨rfl, h0⟩ | ⟨g, cap, cur, rfl, hb, hg, -⟩
  · exact ⟨none, 0, by rw [h0], fun _ _ h => by cases h⟩
  · exact ⟨some ⟨g, 0, none⟩, cap, rfl, fun g' o e => by injection e with e; injection e with e; subst e; exact ⟨hb, (Array.getElem?_eq_some_iff.1 hg).1⟩⟩
theorem RowS.keptA {W W' : World} {A : Option Addr} {n c k : Nat} {l : List St} (h : RowS W (.slice A n c) l) (hg : W.grownBy W' (some k)) (hk : ∀ g o, A = some ⟨g, o, none⟩ → g ≠ k) : RowS W' (.slice A n c) l := by
  obtain ⟨A', cap, h1, h2, h3, h4⟩ := h
  injection h1 with e1 e2 e3
  subst e1 e2 e3
  refine ⟨_, _, rfl, h2, h3, fun hn => ?_⟩
  obtain ⟨b, o, h5, h6⟩ := h4 hn
  have := hk b o h5
  exact ⟨b, o, h5, fun j hj => (h6 j hj).kept hg (by simpa using this)⟩
/-- An outcome whose stones lie in blocks between two numbers. -/
def OcY (W : World) (lo hi : Nat) (p : Oc) : Prop := RowS W p.v p.l ∧ ∃ A n c, p.v = .slice A n c ∧ ∀ g o, A = some ⟨g, o, none⟩ → lo ≤ g ∧ g < hi
theorem OcY.up {W W' : World} {lo hi : Nat} {p : Oc} (h : OcY W lo hi p) (hb : Below W.heap.size W W') : OcY W' lo hi p := ⟨h.1.up hb, h.2⟩
theorem OcY.le {W : World} {lo hi hi' : Nat} {p : Oc} (h : OcY W lo hi p) (hh : hi ≤ hi') : OcY W lo hi' p := by
  obtain ⟨h1, A, n, c, h2, h3⟩ := h
  exact ⟨h1, A, n, c, h2, fun g o e => ⟨(h3 g o e).1, Nat.lt_of_lt_of_le (h3 g o e).2 hh⟩⟩
theorem OcY.kept {W W' : World} {lo hi k : Nat} {p : Oc} (h : OcY W lo hi p) (hg : W.grownBy W' (some k)) (hk : k < lo ∨ hi ≤ k) : OcY W' lo hi p := by
  obtain ⟨h1, A, n, c, h2, h3⟩ := h
  obtain ⟨v, l, b⟩ := p
  simp only at h2
  subst h2
  exact ⟨h1.keptA hg (fun g o e => by have := h3 g o e; omega), A, n, c, rfl, h3⟩
/-- What the document's Judge has made, up to here: outcomes in variables. -/
def RfS (w W : World) (c : Cd) (x : Th) (u : Value) (hi : Nat) (L : List (Nat × Oc)) : Prop :=
  Below w.heap.size w W ∧ Th6 W (w.heap.size + 1) x u ∧ R3 W (w.heap.size + 1 + 1) 0 0 (.slice none 0 0) ∧ Cd5 W w.heap.size c ∧ (w.heap.size + 3 ≤ hi ∧ hi ≤ W.heap.size) ∧
    ∀ q ∈ L, OcAt W q.1 0 q.2 ∧ q.1 < hi ∧ OcY W (w.heap.size + 3) hi q.2
theorem RfS.up {w W W' : World} {c : Cd} {x : Th} {u : Value} {hi : Nat} {L : List (Nat × Oc)} (h : RfS w W c x u hi L) (hb : Below W.heap.size W W') : RfS w W' c x u hi L := by
  obtain ⟨h1, h2, h3, h4, h5, h6⟩ := h
  exact ⟨h1.trans (hb.mono h1.size), h2.up hb, h3.up hb, h4.up hb, ⟨h5.1, Nat.le_trans h5.2 hb.size⟩, fun q hq => ⟨(h6 q hq).1.up hb, (h6 q hq).2.1, (h6 q hq).2.2.up hb⟩⟩
theorem RfS.below {w W : World} {c : Cd} {x : Th} {u : Value} {hi : Nat} {L : List (Nat × Oc)} (h : RfS w W c x u hi L) : Below w.heap.size w W := h.1
theorem RfS.cons {w W : World} {c : Cd} {x : Th} {u v : Value} {hi lo n k : Nat} {g : Bool} {L : List (Nat × Oc)} {l : List St} {A : Option Addr} (h : RfS w W c x u hi L) (hr : RowS W (.slice A n k) l) (hlo : w.heap.size + 3 ≤ lo) (hA : ∀ b o, A = some ⟨b, o, none⟩ → lo ≤ b ∧ b < W.heap.size) (hv : v = .slice A n k) :
    RfS w (W.alloc (.cells #[v, .bool g] 46)) c x u (W.heap.size + 1) ((W.heap.size, ⟨.slice A n k, l, g⟩) :: L) := by
  subst hv
  have hb : Below W.heap.size W (W.alloc (.cells #[.slice A n k, .bool g] 46)) := (Below.refl _ _).alloc (Nat.le_refl _) _
  have h' := h.up hb
  obtain ⟨h1, h2, h3, h4, h5, h6⟩ := h'
  have hh := h.2.2.2.2.1
  refine ⟨h1, h2, h3, h4, ⟨by omega, by simp⟩, fun q hq => ?_⟩
  rcases List.mem_cons.1 hq with rfl | hq
  · exact ⟨OcAt.new W ⟨.slice A n k, l, g⟩, Nat.lt_succ_self _, hr.up hb, A, n, k, rfl, fun b o e => by have := hA b o e; omega⟩
  · obtain ⟨q1, q2, q3⟩ := h6 q hq
    exact ⟨q1, by omega, q3.le (by omega)⟩
/-- With the ruling in a variable. -/
def RfR (w W : World) (c : Cd) (x : Th) (u : Value) (pr : Nat) (k ch : Int) (L : List (Nat × Oc)) : Prop := ∃ hi, RfS w W c x u hi L ∧ hi ≤ pr ∧ R3 W pr k ch (.slice none 0 0)
theorem RfR.up {w W W' : World} {c : Cd} {x : Th} {u : Value} {pr : Nat} {k ch : Int} {L : List (Nat × Oc)} (h : RfR w W c x u pr k ch L) (hb : Below W.heap.size W W') : RfR w W' c x u pr k ch L := by
  obtain ⟨hi, h1, h2, h3⟩ := h
  exact ⟨hi, h1.up hb, h2, h3.up hb⟩
theorem RfR.new {w W : World} {c : Cd} {x : Th} {u : Value} {hi : Nat} {L : List (Nat × Oc)} (h : RfS w W c x u hi L) (k ch : Int) : RfR w (W.alloc (.cells #[.int .i64 k, .int .i64 ch, .slice none 0 0] 40)) c x u W.heap.size k ch L :=
  ⟨hi, h.up ((Below.refl _ _).alloc (Nat.le_refl _) _), h.2.2.2.2.1.2, R3.new W k ch _⟩
theorem RfS.kept {w W W' : World} {c : Cd} {x : Th} {u : Value} {hi pr : Nat} {L : List (Nat × Oc)} (h : RfS w W c x u hi L) (hg : W.grownBy W' (some pr)) (hp : hi ≤ pr) : RfS w W' c x u hi L := by
  obtain ⟨h1, h2, h3, h4, h5, h6⟩ := h
  refine ⟨h1.grown hg h1.size (fun j e => by injection e with e; omega), h2.kept hg (by simp; omega), h3.kept hg (by simp; omega), ?_, ⟨h5.1, Nat.le_trans h5.2 hg.size⟩, fun q hq => ?_⟩
  · obtain ⟨a0, a1, a2, a3, a4⟩ := h4
    have hne : some w.heap.size ≠ some pr := by simp; omega
    exact ⟨hg.cell a0 hne, hg.cell a1 hne, hg.cell a2 hne, hg.cell a3 hne, hg.cell a4 hne⟩
  · obtain ⟨q1, q2, q3⟩ := h6 q hq
    have hne : some q.1 ≠ some pr := by simp; omega
    exact ⟨⟨hg.cell q1.1 hne, hg.cell q1.2 hne⟩, q2, q3.kept hg (.inr hp)⟩
theorem RfR.set1 {w W : World} {c : Cd} {x : Th} {u : Value} {pr : Nat} {k ch : Int} {L : List (Nat × Oc)} (h : RfR w W c x u pr k ch L) (q : Int) : RfR w (W.setCell ⟨pr, 1, none⟩ (.int .i64 q)) c x u pr k q L := by
  obtain ⟨hi, h1, h2, h3⟩ := h
  exact ⟨hi, h1.kept (grown_set W ⟨pr, 1, none⟩ _) h2, h2, h3.set1 q⟩
theorem RowO.keptA {W W' : World} {base k n c : Nat} {A : Option Addr} {D : List Oc} (h : RowO W (.slice A n c) D) (hA : ∀ b o, A = some ⟨b, o, none⟩ → base ≤ b) (hg : W.grownBy W' (some k)) (hk : k < base) : RowO W' (.slice A n c) D :=
  h.kept hg (fun b o e => by have := hA b o e; omega)
/-- The end: the slice of outcomes (made in a block behind the ruling's) is stored into the ruling, and the ruling into the result. -/
theorem rf_end {w w5 : World} {c : Cd} {x : Th} {u : Value} {pr n cp : Nat} {k ch : Int} {L : List (Nat × Oc)} {A : Option Addr} {D : List Oc} {P : List Pr} (h : RfR w w5 c x u pr k ch L) (hD : ∀ p ∈ D, ∃ q ∈ L, q.2 = p)
    (hr : RowO w5 (.slice A n cp) D) (hA : ∀ b o, A = some ⟨b, o, none⟩ → pr + 1 ≤ b) (hn : n = D.length) (hP : D.map oP = P) :
    R3 (w5.setCell ⟨pr, 2, none⟩ (.slice A n cp)) pr k ch (.slice A n cp) ∧ R3 (w5.setCell ⟨pr, 2, none⟩ (.slice A n cp)) (w.heap.size + 1 + 1) 0 0 (.slice none 0 0) ∧
    (RulW ((((w5.setCell ⟨pr, 2, none⟩ (.slice A n cp)).setCell ⟨w.heap.size + 1 + 1, 0, none⟩ (.int .i64 k)).setCell ⟨w.heap.size + 1 + 1, 1, none⟩ (.int .i64 ch)).setCell ⟨w.heap.size + 1 + 1, 2, none⟩ (.slice A n cp)) (.slice A n cp) P ∧
      Below w.heap.size w ((((w5.setCell ⟨pr, 2, none⟩ (.slice A n cp)).setCell ⟨w.heap.size + 1 + 1, 0, none⟩ (.int .i64 k)).setCell ⟨w.heap.size + 1 + 1, 1, none⟩ (.int .i64 ch)).setCell ⟨w.heap.size + 1 + 1, 2, none⟩ (.slice A n cp))) := by
  obtain ⟨hi, h1, h2, h3⟩ := h
  have hlo := h1.2.2.2.2.1.1
  have g1 := grown_set w5 ⟨pr, 2, none⟩ (.slice A n cp)
  have h1' := h1.kept g1 h2
  have g3 : (w5.setCell ⟨pr, 2, none⟩ (.slice A n cp)).grownBy _ (some (w.heap.size + 1 + 1)) := ((grown_set _ ⟨w.heap.size + 1 + 1, 0, none⟩ (.int .i64 k)).trans (grown_set _ ⟨w.heap.size + 1 + 1, 1, none⟩ (.int .i64 ch))).trans (grown_set _ ⟨w.heap.size + 1 + 1, 2, none⟩ (.slice A n cp))
  refine ⟨h3.set2 _, h1'.2.2.1, ⟨A, cp, D, by rw [hn], ?_, ?_, hP⟩, h1'.1.grown g3 h1'.1.size (fun j e => by injection e with e; omega)⟩
  · exact RowO.keptA (base := pr) (RowO.keptA (base := pr + 1) hr hA g1 (Nat.lt_succ_self _)) (fun b o e => by have := hA b o e; omega) g3 (by omega)
  · intro p hp
    obtain ⟨q, hq, rfl⟩ := hD p hp
    exact ((h1'.2.2.2.2.2 q hq).2.2.kept g3 (.inl (by omega))).1
def JugW (c : Cd) (n : Int) (x : Th) (l m : List St) (w : World) (e : Ending) (w' : World) : Prop :=
  (∃ v, e = .returned (.tuple #[Rlv (juR c n x l m) (juCh c n x l m) v, .int .i64 (juE c n x l m)]) ∧ RulW w' v (juP c n x l m)) ∧ Below w.heap.size w w'
theorem srtQ_gone {l : List St} (h : chkB l = true) (t n : Int) : srtQ (goneR t n l) 16 = srt (goneR t n l) :=
  srtQ_srt (bnd_filter (chk_bnd h) _) (dis_filter (chk_dis h) _) ((chk_pw h).filter _)
end Go.Proofs.Ytomcpgdpjpjioaa

namespace Go.Proofs.Ytomcpgdpjpjioaa
open Go.RowKit Go.Proofs Go.Shelf
attribute [local go_sem] Oper.semAt_some

set_option maxRecDepth 100000 in
set_option maxHeartbeats 4000000 in
theorem sameW (r ch : Int) (v u : Value) (P : List Pr) (w : World) (h1 : RulW w v P) (h2 : RulW w u P) : Calls Try.prog 21 #[Rlv r ch v, Rlv r ch u] w (Back (.bool true) w) := by
  obtain ⟨A1, c1, L1, rfl, ⟨A1', cap1, he1, hlc1, ⟨hcap1, hcm1⟩, hr1⟩, hg1, hm1⟩ := h1
  obtain ⟨A2, c2, L2, rfl, ⟨A2', cap2, he2, hlc2, ⟨-, hcm2⟩, hr2⟩, hg2, hm2⟩ := h2
  injection he1 with ea1 _ ec1
  injection he2 with ea2 _ ec2
  subst ea1 ec1 ea2 ec2
  have hlen : L2.length = L1.length := by
    have e := congrArg List.length (hm2.trans hm1.symm)
    simpa using e
  have HR1 := Lib.hid hr1
  have HR2 := Lib.hid hr2
  have HG1 := Lib.hid hg1
  have HG2 := Lib.hid hg2
  have HMM := Lib.hid (hm1.trans hm2.symm)
  obtain ⟨n, hn⟩ : ∃ n, L1.length = n := ⟨_, rfl⟩
  rw [hlen] at hlc2
  rw [hn] at hlen hlc1 hlc2 hcap1
  rw [hlen, hn]
  have HN := Lib.hid hn
  have HLN := Lib.hid hlen
  have K0 : Hid (∀ W, W = ((w.alloc (.cells #[.int .i64 r, .int .i64 ch, .slice A1 n c1] 40)).alloc (.cells #[.int .i64 r, .int .i64 ch, .slice A2 n c2] 40)) → Below w.heap.size w W ∧ R3 W w.heap.size r ch (.slice A1 n c1) ∧ R3 W (w.heap.size + 1) r ch (.slice A2 n c2)) := by
    rintro W rfl
    have b0 : Below w.heap.size w (w.alloc (.cells #[.int .i64 r, .int .i64 ch, .slice A1 n c1] 40)) := (Below.refl _ _).alloc (Nat.le_refl _) _
    have k1 := R3.new w r ch (.slice A1 n c1)
    have k2 := R3.new (w.alloc (.cells #[.int .i64 r, .int .i64 ch, .slice A1 n c1] 40)) r ch (.slice A2 n c2)
    simp only [World.size_alloc] at k2
    exact ⟨b0.alloc (by simp) _, k1.kept (World.grownBy_alloc _ _ none) (by simp), k2⟩
  clear hr1 hr2 hg1 hg2 hm1 hm2 hn hlen
  go_enter Try.func21, Try.ntmps21
  go_upto_region 1 with fail
  generalize hwx : World.alloc (World.alloc w _) _ = wx
  obtain ⟨k1, k2, k3⟩ := K0.out wx hwx.symm
  have B := Lib.hid k1
  have J1 := Lib.hid k2
  have J2 := Lib.hid k3
  clear hwx K0 k1 k2 k3
  obtain ⟨⟨a0, a1, a2⟩, -⟩ := J1.out.cells
  obtain ⟨⟨d0, d1, d2⟩, -⟩ := J2.out.cells
  go_wp2_with fail
  clear a0 a1 a2 d0 d1 d2
  go_loopw [5] (fun iv wr => ∃ k : Nat, k ≤ n ∧ iv = .int .i64 k ∧ Hid (Below wx.heap.size wx wr)) (fun iv _ => n - (intOf iv).toNat)
  case atStart => exact ⟨0, by omega, rfl, Below.refl _ _⟩
  case round =>
    obtain ⟨k, hk, rfl, hb⟩ := hrel
    have HB := Lib.hid hb.out
    have J1' := Lib.hid (J1.out.up HB.out)
    have J2' := Lib.hid (J2.out.up HB.out)
    have BB := Lib.hid (B.out.trans (HB.out.mono B.out.size))
    clear hb
    obtain ⟨⟨a0, a1, a2⟩, -⟩ := J1'.out.cells
    obtain ⟨⟨d0, d1, d2⟩, -⟩ := J2'.out.cells
    by_cases hlt : k < n
    · have hlt' : (k : Int) < (n : Int) := by omega
      have hk1 : k < L1.length := by have := HN.out; omega
      have hk2 : k < L2.length := by have := HLN.out; omega
      obtain ⟨b, o, rfl, hc⟩ := HR1.out (by intro h; subst h; simp at hk1)
      obtain ⟨b', o', rfl, hc'⟩ := HR2.out (by intro h; subst h; simp at hk2)
      obtain ⟨p0, p1⟩ := (hc k hk1).up BB.out
      obtain ⟨q0, q1⟩ := (hc' k hk2).up BB.out
      have hs := oP_at HMM.out k hk1 hk2
      have hx1 := (HG1.out _ (List.getElem_mem hk1))
      have hx2 := (HG2.out _ (List.getElem_mem hk2))
      obtain ⟨x, hx⟩ : ∃ x, L1[k]'hk1 = x := ⟨_, rfl⟩
      obtain ⟨y, hy⟩ : ∃ x, L2[k]'hk2 = x := ⟨_, rfl⟩
      rw [hx] at p0 p1 hs hx1
      rw [hy] at q0 q1 hs hx2
      have H50 : Hid (∀ X : BW wr, Calls Try.prog 50 #[Ocv x, Ocv y] X.to (Back (.bool true) X.to)) := fun X => by rw [← hs]; exact Alike50 x y X.to ((hx1.up BB.out).up X.same) ((hx2.up BB.out).up X.same)
      obtain ⟨g1, n1, c1', hv1⟩ : ∃ A n c, x.v = .slice A n c := by obtain ⟨A, c, h, -⟩ := hx1; exact ⟨A, _, c, h⟩
      obtain ⟨g2, n2, c2', hv2⟩ : ∃ A n c, y.v = .slice A n c := by obtain ⟨A, c, h, -⟩ := hx2; exact ⟨A, _, c, h⟩
      obtain ⟨xv, xl, xg⟩ := x
      obtain ⟨yv, yl, yg⟩ := y
      simp only at hv1 hv2 p0 p1 q0 q1 H50
      subst hv1 hv2
      clear hx hy hs hc hc' a0 a1 d0 d1
      have A2' := Lib.hid a2
      go_upto_region 6 with fail
      have E0 := fun X : BW wr => upc p0 X.same
      have E1 := fun X : BW wr => upc p1 X.same
      have E2 := fun X : BW wr => upc q0 X.same
      have E3 := fun X : BW wr => upc q1 X.same
      have E4 := fun X : BW wr => upc a2 X.same
      have E5 := fun X : BW wr => upc d2 X.same
      clear p0 p1 q0 q1 a2 d2 A2'
      refine wp_region_quietB (by kernel_rfl) (by kernel_rfl) ?_
      repeat (go_big_quiet_step ((go_at_call 50; exact quietB (H50.out _))))
      refine wpQuiet_nil ?_
      rintro _ ⟨⟨wu, hbu⟩, rfl⟩
      have HB4 := Lib.hid (HB.out.trans (hbu.mono HB.out.size))
      clear E0 E1 E2 E3 E4 E5 hbu
      go_wp2_with fail
      go_roundw
      case rel => exact ⟨k + 1, by omega, by go_num, HB4⟩
      case measure => simp [intOf]; omega
    · obtain rfl : k = n := by omega
      clear a0 a1 d0 d1 d2
      go_wp2_with fail
      go_ret
      exact ⟨rfl, BB.out⟩
end Go.Proofs.Ytomcpgdpjpjioaa
