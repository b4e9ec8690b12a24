/- Contracts: the law's mirrored, exchanged. Contract: the law's changed (a ruling with mirrored stones, or with the teams exchanged). -/
import Derived.Test.YtomcpgdpjpjioaaPy
import Derived.Test.YtomcpgdpjpjioaaDl
import Derived.Test.YtomcpgdpjpjioaaFq
import Derived.Maps.AppendAt
namespace Go.Proofs.Ytomcpgdpjpjioaa
open Go.RowKit Go.Proofs Go.Shelf
attribute [local go_sem] Oper.semAt_some

set_option maxRecDepth 100000 in
set_option maxHeartbeats 2000000 in
theorem mirrored25 (l : List St) (v : Value) (w : World) (hrow : RowS w v l) (hl : l.length ≤ 900) (hok : ∀ s ∈ l, okSt s) :
    Calls Try.prog 25 #[v] w fun e w' => (∃ u, e = .returned u ∧ OwnS w.heap.size w' u (l.map mirS)) ∧ Below w.heap.size w w' := by
  obtain ⟨i0, hi, hz0, hz1, hz2⟩ := info_parts Try.info53
  obtain ⟨A, cap, rfl, hlc, ⟨hcap, hcmx⟩, hcells⟩ := hrow
  have HR := Lib.hid hcells
  have HOK := Lib.hid hok
  clear hcells hcmx hok
  go_enter Try.func25, Try.ntmps25
  go_wp2_with fail
  have O0 : Hid (w.ownsRow w.heap.size 53 4 (.slice none 0 0) 0 (((l.take 0).map mirS).flatMap stC)) := World.ownsRow_nil _ _ _ _
  have B0 : Hid (Below w.heap.size w w) := Below.refl _ _
  go_loopw [3, 4] (fun u iv wr => ∃ k : Nat, k ≤ l.length ∧ iv = .int .i64 k ∧ Hid (wr.ownsRow w.heap.size 53 4 u k (((l.take k).map mirS).flatMap stC)) ∧ Hid (Below w.heap.size w wr)) (fun _ iv _ => l.length - (intOf iv).toNat)
  case atStart => exact ⟨0, by omega, rfl, O0, B0⟩
  case round =>
    obtain ⟨k, hk, rfl, ho, hb⟩ := hrel
    have HB := Lib.hid hb.out
    have HO := Lib.hid ho.out
    clear ho hb O0 B0
    by_cases hlt : k < l.length
    · have hlt' : (k : Int) < (l.length : Int) := by omega
      obtain ⟨b, o, rfl, hc⟩ := HR.out (by intro h; subst h; simp at hlt)
      obtain ⟨a0, a1, a2, a3⟩ := (hc k hlt).up HB.out
      have hst : (l.take (k + 1)).map mirS = (l.take k).map mirS ++ [mirS (l[k]'hlt)] := by rw [List.take_succ_eq_append_getElem hlt, List.map_append]; rfl
      have hs0 := HOK.out _ (List.getElem_mem hlt)
      obtain ⟨s, hs⟩ : ∃ s, l[k]'hlt = s := ⟨_, rfl⟩
      rw [hs] at a0 a1 a2 a3 hst hs0
      obtain ⟨⟨⟨h1, h2⟩, -⟩, ⟨⟨h3, h4⟩, -⟩, -⟩ := hs0
      have HST := Lib.hid hst
      clear hs hst hc
      obtain ⟨s1, s2, s3, s4⟩ := s
      simp only at a0 a1 a2 a3 h1 h2 h3 h4
      have HST : Hid ((l.take (k + 1)).map mirS = (l.take k).map mirS ++ [⟨s1, s2, -s3, s4⟩]) := HST.out
      go_upto_region 7 with fail
      generalize hwx : World.alloc wr _ = wx
      have KX : At4 wx wr.heap.size 0 ⟨s1, s2, -s3, s4⟩ := by rw [← hwx]; exact At4.new wr ⟨s1, s2, -s3, s4⟩
      have BX : Hid (Below w.heap.size w wx) := by show Below _ _ _; rw [← hwx]; exact HB.out.alloc HB.out.size _
      have OX : Hid (wx.ownsRow w.heap.size 53 4 u3 k (((l.take k).map mirS).flatMap stC)) := by show World.ownsRow _ _ _ _ _ _ _; rw [← hwx]; exact HO.out.alloc _
      clear hwx a0 a1 a2 a3
      obtain ⟨c0, c1, c2, c3⟩ := KX
      simp only [Nat.zero_add] at c0 c1 c2 c3
      have hz := BX.out.size
      have K2 : Hid ((wx.alloc (Sto ⟨s1, s2, -s3, s4⟩)).ownsRow w.heap.size 53 4 u3 k (((l.take k).map mirS).flatMap stC)) := OX.out.alloc _
      have B2 : Hid (Below w.heap.size w (wx.alloc (Sto ⟨s1, s2, -s3, s4⟩))) := BX.out.alloc hz _
      have NW := Lib.hid (news_lit wx ⟨s1, s2, -s3, s4⟩)
      go_wp2_with (at_builtin; refine wpList_append_own _ rfl _ _ 24 rfl w.heap.size 53 i0 _ 4 32 Try.underlying24 hi hz0 hz1 hz2 rfl (by decide) _ _ _ rfl K2.out ⟨wx.heap.size, 0, none⟩ 1 1 (stC ⟨s1, s2, -s3, s4⟩) rfl rfl NW.out (fun u h => stC_one1 h) (by unfold maxLen; omega) (by omega) (by simp; omega) ?_; intro v' w5 hown hgrow hnn; have B5 := Lib.hid (B2.out.grown hgrow (by simp; omega) (fun j hj => (ownBlock_ge K2.out hj).1)); have HO5 := Lib.hid hown; clear hown hgrow hnn)
      go_roundw
      case rel => exact ⟨k + 1, by omega, by go_num, by show World.ownsRow _ _ _ _ _ _ _; rw [HST.out]; simpa using HO5.out, B5⟩
      case measure => simp [intOf]; omega
    · obtain rfl : k = l.length := by omega
      have HFIN : Hid (OwnS w.heap.size wr u3 (l.map mirS)) := by
        show World.ownsRow _ _ _ _ _ _ _
        have := HO.out
        rw [List.take_length] at this
        rw [List.length_map]; exact this
      go_wp2_with fail
      exact bodyPost_ret (v := u3) (by kernel_rfl) rfl ⟨⟨u3, rfl, HFIN.out⟩, HB.out⟩

set_option maxRecDepth 100000 in
set_option maxHeartbeats 2000000 in
theorem exchanged26 (l : List St) (v : Value) (w : World) (hrow : RowS w v l) (hl : l.length ≤ 900) (hok : ∀ s ∈ l, okSt s) :
    Calls Try.prog 26 #[v] w fun e w' => (∃ u, e = .returned u ∧ OwnS w.heap.size w' u (l.map excS)) ∧ Below w.heap.size w w' := by
  obtain ⟨i0, hi, hz0, hz1, hz2⟩ := info_parts Try.info53
  obtain ⟨A, cap, rfl, hlc, ⟨hcap, hcmx⟩, hcells⟩ := hrow
  have HR := Lib.hid hcells
  have HOK := Lib.hid hok
  clear hcells hcmx hok
  go_enter Try.func26, Try.ntmps26
  go_wp2_with fail
  have O0 : Hid (w.ownsRow w.heap.size 53 4 (.slice none 0 0) 0 (((l.take 0).map excS).flatMap stC)) := World.ownsRow_nil _ _ _ _
  have B0 : Hid (Below w.heap.size w w) := Below.refl _ _
  go_loopw [3, 4] (fun u iv wr => ∃ k : Nat, k ≤ l.length ∧ iv = .int .i64 k ∧ Hid (wr.ownsRow w.heap.size 53 4 u k (((l.take k).map excS).flatMap stC)) ∧ Hid (Below w.heap.size w wr)) (fun _ iv _ => l.length - (intOf iv).toNat)
  case atStart => exact ⟨0, by omega, rfl, O0, B0⟩
  case round =>
    obtain ⟨k, hk, rfl, ho, hb⟩ := hrel
    have HB := Lib.hid hb.out
    have HO := Lib.hid ho.out
    clear ho hb O0 B0
    by_cases hlt : k < l.length
    · have hlt' : (k : Int) < (l.length : Int) := by omega
      obtain ⟨b, o, rfl, hc⟩ := HR.out (by intro h; subst h; simp at hlt)
      obtain ⟨a0, a1, a2, a3⟩ := (hc k hlt).up HB.out
      have hst : (l.take (k + 1)).map excS = (l.take k).map excS ++ [excS (l[k]'hlt)] := by rw [List.take_succ_eq_append_getElem hlt, List.map_append]; rfl
      have hs0 := HOK.out _ (List.getElem_mem hlt)
      obtain ⟨s, hs⟩ : ∃ s, l[k]'hlt = s := ⟨_, rfl⟩
      rw [hs] at a0 a1 a2 a3 hst hs0
      obtain ⟨⟨⟨h1, h2⟩, -⟩, ⟨⟨h3, h4⟩, -⟩, -⟩ := hs0
      have HST := Lib.hid hst
      clear hs hst hc
      obtain ⟨s1, s2, s3, s4⟩ := s
      simp only at a0 a1 a2 a3 h1 h2 h3 h4
      have HST : Hid ((l.take (k + 1)).map excS = (l.take k).map excS ++ [⟨1 - s1, s2, s3, s4⟩]) := HST.out
      go_upto_region 7 with fail
      generalize hwx : World.alloc wr _ = wx
      have KX : At4 wx wr.heap.size 0 ⟨1 - s1, s2, s3, s4⟩ := by rw [← hwx]; exact At4.new wr ⟨1 - s1, s2, s3, s4⟩
      have BX : Hid (Below w.heap.size w wx) := by show Below _ _ _; rw [← hwx]; exact HB.out.alloc HB.out.size _
      have OX : Hid (wx.ownsRow w.heap.size 53 4 u3 k (((l.take k).map excS).flatMap stC)) := by show World.ownsRow _ _ _ _ _ _ _; rw [← hwx]; exact HO.out.alloc _
      clear hwx a0 a1 a2 a3
      obtain ⟨c0, c1, c2, c3⟩ := KX
      simp only [Nat.zero_add] at c0 c1 c2 c3
      have hz := BX.out.size
      have K2 : Hid ((wx.alloc (Sto ⟨1 - s1, s2, s3, s4⟩)).ownsRow w.heap.size 53 4 u3 k (((l.take k).map excS).flatMap stC)) := OX.out.alloc _
      have B2 : Hid (Below w.heap.size w (wx.alloc (Sto ⟨1 - s1, s2, s3, s4⟩))) := BX.out.alloc hz _
      have NW := Lib.hid (news_lit wx ⟨1 - s1, s2, s3, s4⟩)
      go_wp2_with (at_builtin; refine wpList_append_own _ rfl _ _ 24 rfl w.heap.size 53 i0 _ 4 32 Try.underlying24 hi hz0 hz1 hz2 rfl (by decide) _ _ _ rfl K2.out ⟨wx.heap.size, 0, none⟩ 1 1 (stC ⟨1 - s1, s2, s3, s4⟩) rfl rfl NW.out (fun u h => stC_one1 h) (by unfold maxLen; omega) (by omega) (by simp; omega) ?_; intro v' w5 hown hgrow hnn; have B5 := Lib.hid (B2.out.grown hgrow (by simp; omega) (fun j hj => (ownBlock_ge K2.out hj).1)); have HO5 := Lib.hid hown; clear hown hgrow hnn)
      go_roundw
      case rel => exact ⟨k + 1, by omega, by go_num, by show World.ownsRow _ _ _ _ _ _ _; rw [HST.out]; simpa using HO5.out, B5⟩
      case measure => simp [intOf]; omega
    · obtain rfl : k = l.length := by omega
      have HFIN : Hid (OwnS w.heap.size wr u3 (l.map excS)) := by
        show World.ownsRow _ _ _ _ _ _ _
        have := HO.out
        rw [List.take_length] at this
        rw [List.length_map]; exact this
      go_wp2_with fail
      exact bodyPost_ret (v := u3) (by kernel_rfl) rfl ⟨⟨u3, rfl, HFIN.out⟩, HB.out⟩

set_option maxRecDepth 100000 in
set_option maxHeartbeats 2000000 in
theorem turned27 (l : List St) (v : Value) (w : World) (hrow : RowS w v l) (hl : l.length ≤ 900) :
    Calls Try.prog 27 #[v] w fun e w' => (∃ u, e = .returned u ∧ OwnS w.heap.size w' u l.reverse) ∧ Below w.heap.size w w' := by
  obtain ⟨i0, hi, hz0, hz1, hz2⟩ := info_parts Try.info53
  obtain ⟨A, cap, rfl, hlc, ⟨hcap, hcmx⟩, hcells⟩ := hrow
  have HR := Lib.hid hcells
  clear hcells hcmx
  go_enter Try.func27, Try.ntmps27
  go_wp2_with fail
  have O0 : Hid (w.ownsRow w.heap.size 53 4 (.slice none 0 0) 0 (((l.drop l.length).reverse).flatMap stC)) := by show World.ownsRow _ _ _ _ _ _ _; rw [List.drop_length]; exact World.ownsRow_nil _ _ _ _
  have B0 : Hid (Below w.heap.size w w) := Below.refl _ _
  go_loopw [3, 4] (fun u iv wr => ∃ (j k : Nat) (I : Int), j + k = l.length ∧ Hid (I = (j : Int) - 1) ∧ iv = .int .i64 I ∧ Hid (wr.ownsRow w.heap.size 53 4 u k (((l.drop j).reverse).flatMap stC)) ∧ Hid (Below w.heap.size w wr)) (fun _ iv _ => (intOf iv + 1).toNat)
  case atStart => exact ⟨l.length, 0, _, rfl, rfl, rfl, O0, B0⟩
  case round =>
    obtain ⟨j, k, I, hjk, hI, rfl, ho, hb⟩ := hrel
    have HB := Lib.hid hb.out
    have HO := Lib.hid ho.out
    have hI := hI.out
    clear ho hb O0 B0
    by_cases hj0 : j = 0
    · subst hj0
      obtain rfl : I = -1 := by omega
      obtain rfl : k = l.length := by omega
      have HFIN : Hid (OwnS w.heap.size wr u3 l.reverse) := by
        show World.ownsRow _ _ _ _ _ _ _
        have := HO.out
        rw [List.drop_zero] at this
        rw [List.length_reverse]; exact this
      clear hI
      go_wp2_with fail
      exact bodyPost_ret (v := u3) (by kernel_rfl) rfl ⟨⟨u3, rfl, HFIN.out⟩, HB.out⟩
    · obtain ⟨m, rfl⟩ : ∃ m, j = m + 1 := ⟨j - 1, by omega⟩
      obtain rfl : I = (m : Int) := by omega
      have hlt : m < l.length := by omega
      have hlt' : (m : Int) < (l.length : Int) := by omega
      obtain ⟨b, o, rfl, hc⟩ := HR.out (by intro h; subst h; simp at hlt)
      obtain ⟨a0, a1, a2, a3⟩ := (hc m hlt).up HB.out
      have hst : (l.drop m).reverse = (l.drop (m + 1)).reverse ++ [l[m]'hlt] := by rw [List.drop_eq_getElem_cons hlt, List.reverse_cons]
      obtain ⟨s, hs⟩ : ∃ s, l[m]'hlt = s := ⟨_, rfl⟩
      rw [hs] at a0 a1 a2 a3 hst
      have HST := Lib.hid hst
      clear hs hst hc hI hj0
      obtain ⟨s1, s2, s3, s4⟩ := s
      simp only at a0 a1 a2 a3
      have hz := HB.out.size
      have K2 : Hid ((wr.alloc (Sto ⟨s1, s2, s3, s4⟩)).ownsRow w.heap.size 53 4 u3 k (((l.drop (m + 1)).reverse).flatMap stC)) := HO.out.alloc _
      have B2 : Hid (Below w.heap.size w (wr.alloc (Sto ⟨s1, s2, s3, s4⟩))) := HB.out.alloc hz _
      have NW := Lib.hid (news_lit wr ⟨s1, s2, s3, s4⟩)
      have HJK := Lib.hid hjk
      have hk900 : k ≤ 900 := by omega
      clear hjk
      go_wp2_with (at_builtin; refine wpList_append_own _ rfl _ _ 24 rfl w.heap.size 53 i0 _ 4 32 Try.underlying24 hi hz0 hz1 hz2 rfl (by decide) _ _ _ rfl K2.out ⟨wr.heap.size, 0, none⟩ 1 1 (stC ⟨s1, s2, s3, s4⟩) rfl rfl NW.out (fun u h => stC_one1 h) (by unfold maxLen; omega) (by omega) (by simp; omega) ?_; intro v' w5 hown hgrow hnn; have B5 := Lib.hid (B2.out.grown hgrow (by simp; omega) (fun j hj => (ownBlock_ge K2.out hj).1)); have HO5 := Lib.hid hown; clear hown hgrow hnn)
      go_roundw
      case rel => exact ⟨m, k + 1, _, by have := HJK.out; omega, rfl, by go_num, by show World.ownsRow _ _ _ _ _ _ _; rw [HST.out]; simpa using HO5.out, B5⟩
      case measure => simp [intOf]
end Go.Proofs.Ytomcpgdpjpjioaa

namespace Go.Proofs.Ytomcpgdpjpjioaa
open Go.RowKit Go.Proofs Go.Shelf
attribute [local go_sem] Oper.semAt_some

theorem RowS.keptR {W W' : World} {A : Option Addr} {n c : Nat} {row : Option Nat} {l : List St} (h : RowS W (.slice A n c) l) (hg : W.grownBy W' row) (hk : ∀ g o, A = some ⟨g, o, none⟩ → some g ≠ row) : RowS W' (.slice A n c) l := by
  obtain ⟨A', cap, h1, h2, h3, h4⟩ := h
  injection h1 with e1 e2 e3
  subst e1 e2 e3
  refine ⟨_, _, rfl, h2, h3, fun hn => ?_⟩
  obtain ⟨b, o, h5, h6⟩ := h4 hn
  have := hk b o h5
  exact ⟨b, o, h5, fun j hj => (h6 j hj).kept hg (by simpa using this)⟩
/-- Outcomes whose stones lie in blocks from some number on, and not in the row that grows. -/
def OcO (W : World) (base : Nat) (ob : Option Nat) (D : List Oc) : Prop := ∀ p ∈ D, RowS W p.v p.l ∧ ∃ A n c, p.v = .slice A n c ∧ ∀ g o, A = some ⟨g, o, none⟩ → base ≤ g ∧ g < W.heap.size ∧ some g ≠ ob
theorem OcO.nil {W : World} {base : Nat} {ob : Option Nat} : OcO W base ob [] := fun _ h => by cases h
theorem OcO.up {W W' : World} {base : Nat} {ob : Option Nat} {D : List Oc} (h : OcO W base ob D) (hb : Below W.heap.size W W') : OcO W' base ob D := fun p hp => by
  obtain ⟨h1, A, n, c, h2, h3⟩ := h p hp
  exact ⟨h1.up hb, A, n, c, h2, fun g o e => by have := h3 g o e; exact ⟨this.1, Nat.lt_of_lt_of_le this.2.1 hb.size, this.2.2⟩⟩
theorem OcO.grown {W W' : World} {base : Nat} {ob ob' : Option Nat} {D : List Oc} (h : OcO W base ob D) (hg : W.grownBy W' ob) (ho : ob' = ob ∨ ob' = some W.heap.size) : OcO W' base ob' D := fun p hp => by
  obtain ⟨h1, A, n, c, h2, h3⟩ := h p hp
  refine ⟨?_, A, n, c, h2, fun g o e => ?_⟩
  · rw [h2] at h1 ⊢
    exact h1.keptR hg (fun g o e => (h3 g o e).2.2)
  · obtain ⟨q1, q2, q3⟩ := h3 g o e
    refine ⟨q1, Nat.lt_of_lt_of_le q2 hg.size, ?_⟩
    rcases ho with rfl | rfl
    · exact q3
    · intro e; injection e with e; omega
theorem OcO.kept {W W' : World} {base k : Nat} {ob : Option Nat} {D : List Oc} (h : OcO W base ob D) (hg : W.grownBy W' (some k)) (hk : k < base) : OcO W' base ob D := fun p hp => by
  obtain ⟨h1, A, n, c, h2, h3⟩ := h p hp
  refine ⟨?_, A, n, c, h2, fun g o e => ?_⟩
  · rw [h2] at h1 ⊢
    exact h1.keptR hg (fun g o e => by have := (h3 g o e).1; intro e; injection e with e; omega)
  · obtain ⟨q1, q2, q3⟩ := h3 g o e
    exact ⟨q1, Nat.lt_of_lt_of_le q2 hg.size, q3⟩
theorem OcO.snoc {W : World} {base : Nat} {ob : Option Nat} {D : List Oc} {p : Oc} (h : OcO W base ob D) (hp : RowS W p.v p.l ∧ ∃ A n c, p.v = .slice A n c ∧ ∀ g o, A = some ⟨g, o, none⟩ → base ≤ g ∧ g < W.heap.size ∧ some g ≠ ob) : OcO W base ob (D ++ [p]) := fun q hq => by
  rcases List.mem_append.1 hq with h1 | h1
  · exact h q h1
  · rw [List.mem_singleton.1 h1]; exact hp
theorem OcO.ocR {W : World} {base : Nat} {ob : Option Nat} {D : List Oc} (h : OcO W base ob D) : OcR W D := fun p hp => (h p hp).1
/-- An outcome in a variable that may be written. -/
def OcV (W : World) (b : Nat) (p : Oc) : Prop := ∀ j, j < 2 → W.cell? ⟨b, j, none⟩ = (oC p)[j]? ∧ W.frozen? ⟨b, j, none⟩ = false
theorem OcV.lt {W : World} {b : Nat} {p : Oc} (h : OcV W b p) : b < W.heap.size := by
  have h0 : W.cell? ⟨b, 0, none⟩ = some p.v := (h 0 (by omega)).1
  exact lt_cell h0
theorem OcV.kept {w w' : World} {b : Nat} {p : Oc} {row : Option Nat} (h : OcV w b p) (hg : w.grownBy w' row) (hne : some b ≠ row) : OcV w' b p := by
  have hk := hg.block b h.lt hne
  exact fun j hj => ⟨(cell_heap hk).trans (h j hj).1, (frozen_heap hk).trans (h j hj).2⟩
theorem OcV.up {w w' : World} {b : Nat} {p : Oc} (h : OcV w b p) (hb : Below w.heap.size w w') : OcV w' b p := h.kept (grown_of hb none) (by simp)
theorem OcV.new (w : World) (p : Oc) : OcV (w.alloc (Oco p)) w.heap.size p := by
  intro j hj
  rcases j with _ | _ | j
  all_goals first
    | (exfalso; omega)
    | exact ⟨by simp [go_sem]; rfl, by simp [go_sem]⟩
theorem OcV.set0 {w : World} {b : Nat} {p : Oc} (h : OcV w b p) (v : Value) (l : List St) : OcV (w.setCell ⟨b, 0, none⟩ v) b ⟨v, l, p.g⟩ := by
  intro j hj
  have h6 := h 0 (by omega)
  have hj' := h j hj
  rcases j with _ | _ | j
  all_goals first
    | (exfalso; omega)
    | (refine ⟨?_, ?_⟩ <;> simp_all [go_sem, oC])
theorem OcV.cells {w : World} {b : Nat} {p : Oc} (h : OcV w b p) : (w.cell? ⟨b, 0, none⟩ = some p.v ∧ w.cell? ⟨b, 1, none⟩ = some (.bool p.g)) ∧ w.frozen? ⟨b, 0, none⟩ = false ∧ w.frozen? ⟨b, 1, none⟩ = false :=
  ⟨⟨(h 0 (by omega)).1, (h 1 (by omega)).1⟩, (h 0 (by omega)).2, (h 1 (by omega)).2⟩
/-- The ruling in a variable, and the result's variable. -/
def ChS (w W : World) (r ch : Int) (v : Value) : Prop := Below w.heap.size w W ∧ R3 W w.heap.size r ch v ∧ R3 W (w.heap.size + 1) 0 0 (.slice none 0 0) ∧ w.heap.size + 2 ≤ W.heap.size
theorem ChS.up {w W W' : World} {r ch : Int} {v : Value} (h : ChS w W r ch v) (hb : Below W.heap.size W W') : ChS w W' r ch v := ⟨h.1.trans (hb.mono h.1.size), h.2.1.up hb, h.2.2.1.up hb, Nat.le_trans h.2.2.2 hb.size⟩
theorem ChS.below {w W : World} {r ch : Int} {v : Value} (h : ChS w W r ch v) : Below w.heap.size w W := h.1
theorem ChS.new (w : World) (r ch : Int) (v : Value) : ChS w ((w.alloc (.cells #[.int .i64 r, .int .i64 ch, v] 40)).alloc (.cells #[.int .i64 0, .int .i64 0, .slice none 0 0] 40)) r ch v := by
  have b0 : Below w.heap.size w (w.alloc (.cells #[.int .i64 r, .int .i64 ch, v] 40)) := (Below.refl _ _).alloc (Nat.le_refl _) _
  have k1 := R3.new w r ch v
  have k2 := R3.new (w.alloc (.cells #[.int .i64 r, .int .i64 ch, v] 40)) 0 0 (.slice none 0 0)
  simp only [World.size_alloc] at k2
  exact ⟨b0.alloc (by simp) _, k1.up ((Below.refl _ _).alloc (Nat.le_refl _) _), k2, by simp⟩
/-- What changed answers: the chooser. -/
def chgR (how ch : Int) : Int := if how = 1 ∧ 0 ≤ ch then 1 - ch else ch
def chgP (f : St → St) (P : List Pr) : List Pr := P.map fun q => (srtQ (q.1.map f) 16, q.2)
def ChC (how : Int) (f : St → St) (r ch : Int) (P : List Pr) (w : World) (e : Ending) (w' : World) : Prop :=
  (∃ A n c, e = .returned (.agg #[.int .i64 r, .int .i64 (chgR how ch), .slice A n c]) ∧ RulW w' (.slice A n c) (chgP f P)) ∧ Below w.heap.size w w'
/-- The outcomes made so far. -/
def ChL (w W : World) (u : Value) (k : Nat) (D : List Oc) : Prop := OwnO (w.heap.size + 2) W u D ∧ D.length = k ∧ OcO W (w.heap.size + 2) u.ownBlock D
theorem ChL.up {w W W' : World} {u : Value} {k : Nat} {D : List Oc} (h : ChL w W u k D) (hb : Below W.heap.size W W') : ChL w W' u k D := ⟨ownO_up h.1 hb, h.2.1, h.2.2.up hb⟩
theorem ChL.own {w W : World} {u : Value} {k : Nat} {D : List Oc} (h : ChL w W u k D) : W.ownsRow (w.heap.size + 2) 46 2 u k (D.flatMap oC) := by rw [← h.2.1]; exact h.1
/-- The end. -/
theorem ch_end {w wr wt : World} {r ch q : Int} {v : Value} {A : Option Addr} {n c k : Nat} {D : List Oc} {Q : List Pr} (hS : ChS w wr r ch v) (hL : ChL w wr (.slice A n c) k D) (hk : k ≤ 900) (hQ : D.map oP = Q) (hn : n = k)
    (hg : wr.grownBy wt (some w.heap.size)) :
    R3 wt (w.heap.size + 1) 0 0 (.slice none 0 0) ∧
    (RulW (((wt.setCell ⟨w.heap.size + 1, 0, none⟩ (.int .i64 r)).setCell ⟨w.heap.size + 1, 1, none⟩ (.int .i64 q)).setCell ⟨w.heap.size + 1, 2, none⟩ (.slice A n c)) (.slice A n c) Q ∧
      Below w.heap.size w (((wt.setCell ⟨w.heap.size + 1, 0, none⟩ (.int .i64 r)).setCell ⟨w.heap.size + 1, 1, none⟩ (.int .i64 q)).setCell ⟨w.heap.size + 1, 2, none⟩ (.slice A n c))) := by
  obtain ⟨h1, h2, h4, h5⟩ := hS
  obtain ⟨o1, o2, o3⟩ := hL
  have g3 : wt.grownBy _ (some (w.heap.size + 1)) := ((grown_set wt ⟨w.heap.size + 1, 0, none⟩ (.int .i64 r)).trans (grown_set _ ⟨w.heap.size + 1, 1, none⟩ (.int .i64 q))).trans (grown_set _ ⟨w.heap.size + 1, 2, none⟩ (.slice A n c))
  have o1' := ownO_kept (ownO_kept o1 hg (by omega)) g3 (by omega)
  have o3' := (o3.kept hg (by omega)).kept g3 (by omega)
  refine ⟨h4.kept hg (by simp), ⟨A, c, D, by rw [hn, o2], RowO.of_own o1' (by omega), o3'.ocR, hQ⟩, ?_⟩
  have b1 := h1.grown hg h1.size (fun j e => by injection e with e; omega)
  exact b1.grown g3 b1.size (fun j e => by injection e with e; omega)

set_option maxRecDepth 100000 in
set_option maxHeartbeats 4000000 in
theorem changed28 (how : Int) (f : St → St) (hf : (how = 0 ∧ f = mirS) ∨ (how = 1 ∧ f = excS)) (r ch : Int) (v : Value) (P : List Pr) (w : World) (hv : RulW w v P) (hlen : P.length ≤ 900) (hP : ∀ q ∈ P, q.1.length ≤ 900 ∧ ∀ s ∈ q.1, okSt s) (hch : -1 ≤ ch ∧ ch ≤ 1) :
    Calls Try.prog 28 #[Rlv r ch v, .int .i64 how] w (ChC how f r ch P w) := by
  obtain ⟨i0, hi, hz0, hz1, hz2⟩ := info_parts Try.info46
  obtain ⟨A, cap, L, rfl, ⟨A', cap', he, hlc, ⟨hcap, hcmx⟩, hcells⟩, hOR, hLP⟩ := hv
  injection he with e1 e2 e3
  subst e1 e3
  have hLl : P.length = L.length := by rw [← hLP, List.length_map]
  rw [hLl] at hlen
  have HR := Lib.hid hcells
  have HOR := Lib.hid hOR
  have HOK : Hid (∀ p ∈ L, p.l.length ≤ 900 ∧ ∀ s ∈ p.l, okSt s) := fun p hp => hP (oP p) (by rw [← hLP]; exact List.mem_map_of_mem hp)
  have HLP := Lib.hid hLP
  obtain ⟨n, hn⟩ : ∃ n, L.length = n := ⟨_, rfl⟩
  rw [hn] at hlen hlc
  have HN := Lib.hid hn
  rw [hn]
  have S0 := Lib.hid (ChS.new w r ch (.slice A n cap))
  have HF := Lib.hid hf
  have HM : Hid (∀ W (l : List St) (u : Value), RowS W u l → l.length ≤ 900 → (∀ s ∈ l, okSt s) → Calls Try.prog (if how = 0 then 25 else 26) #[u] W fun e w' => (∃ A n c, e = .returned (.slice A n c) ∧ RowS w' (.slice A n c) (l.map f)) ∧ Below W.heap.size W w') := fun W l u h1 h2 h3 => by
    have fin : ∀ (e : Ending) (w' : World), ((∃ u, e = .returned u ∧ OwnS W.heap.size w' u (l.map f)) ∧ Below W.heap.size W w') → (∃ A n c, e = .returned (.slice A n c) ∧ RowS w' (.slice A n c) (l.map f)) ∧ Below W.heap.size W w' := by
      rintro e w' ⟨⟨u, rfl, ho⟩, hb⟩
      obtain ⟨A, c, rfl, -⟩ := own_form ho
      exact ⟨⟨A, _, c, rfl, RowS.of_own ho (by rw [List.length_map]; omega)⟩, hb⟩
    rcases HF.out with ⟨rfl, rfl⟩ | ⟨rfl, rfl⟩
    · exact (mirrored25 l u W h1 h2 h3).mono fin
    · exact (exchanged26 l u W h1 h2 h3).mono fin
  have H41 : Hid (∀ W (l : List St) (u : Value), RowS W u l → l.length ≤ 900 → Calls Try.prog 41 #[u] W fun e w' => (∃ A n c, e = .returned (.slice A n c) ∧ RowS w' (.slice A n c) (srtQ l 16) ∧ Hid (∀ g o, A = some ⟨g, o, none⟩ → W.heap.size ≤ g ∧ g < w'.heap.size)) ∧ Below W.heap.size W w') := fun W l u h1 h2 => by
    refine (Sorted41 l u W h1 h2).mono ?_
    rintro e w' ⟨⟨u, rfl, ho⟩, hb⟩
    obtain ⟨A, c, rfl, hA⟩ := own_form ho
    exact ⟨⟨A, _, c, rfl, RowS.of_own ho (by have := srtQ_len l 16; omega), hA⟩, hb⟩
  have hhow : how = 0 ∨ how = 1 := by rcases hf with ⟨rfl, -⟩ | ⟨rfl, -⟩ <;> omega
  clear hcells hcmx hOR hLP hP hf hn hLl
  obtain ⟨hc1, hc2⟩ := hch
  go_enter Try.func28, Try.ntmps28
  go_upto_region 1 with fail
  generalize hwx : World.alloc (World.alloc w _) _ = wx
  have S : Hid (ChS w wx r ch (.slice A n cap)) := by show ChS _ _ _ _ _; rw [← hwx]; exact S0.out
  have HSZ : Hid (wx.heap.size = w.heap.size + 2) := by show _ = _; rw [← hwx]; simp
  clear hwx S0
  go_wp2_with fail
  have O0 : Hid (ChL w wx (.slice none 0 0) 0 []) := ⟨World.ownsRow_nil _ _ _ _, rfl, OcO.nil⟩
  go_loopw [5, 6] (fun u iv wr => ∃ k : Nat, k ≤ n ∧ iv = .int .i64 k ∧ Hid (∃ D, ChL w wr u k D ∧ D.map oP = chgP f (P.take k)) ∧ Hid (Below wx.heap.size wx wr)) (fun _ iv _ => n - (intOf iv).toNat)
  case atStart => exact ⟨0, by omega, rfl, ⟨[], O0.out, rfl⟩, Below.refl _ _⟩
  case round =>
    obtain ⟨k, hk, rfl, ho, hb⟩ := hrel
    obtain ⟨D, hcl, hdp⟩ := ho.out
    have HB := Lib.hid hb.out
    have HC := Lib.hid hcl
    have HD := Lib.hid hdp
    have SR := Lib.hid (S.out.up HB.out)
    clear ho hb O0 hcl hdp
    obtain ⟨⟨a0, a1, a2⟩, -⟩ := SR.out.2.1.cells
    by_cases hlt : k < n
    · have hlt' : (k : Int) < (n : Int) := by omega
      have hkL : k < L.length := by have := HN.out; omega
      obtain ⟨b, o, rfl, hc⟩ := HR.out (by intro h; subst h; simp at hkL)
      obtain ⟨p0, p1⟩ := (hc k hkL).up SR.out.1
      have hmem := List.getElem_mem hkL
      have hst : P.take (k + 1) = P.take k ++ [oP (L[k]'hkL)] := by
        have e1 : k < P.length := by rw [← HLP.out, List.length_map]; exact hkL
        rw [List.take_succ_eq_append_getElem e1]
        congr 2
        have := HLP.out
        subst this
        simp
      obtain ⟨p, hp⟩ : ∃ p, L[k]'hkL = p := ⟨_, rfl⟩
      rw [hp] at p0 p1 hmem hst
      have hrow := (HOR.out p hmem).up SR.out.1
      obtain ⟨hpl, hpo⟩ := HOK.out p hmem
      obtain ⟨A1, n1, c1, hv1⟩ : ∃ A n c, p.v = .slice A n c := by obtain ⟨A, c, h, -⟩ := hrow; exact ⟨A, _, c, h⟩
      obtain ⟨pv, pl, pg⟩ := p
      simp only at hv1 p0 p1 hrow hpl hpo
      subst hv1
      have HROW := Lib.hid hrow
      have HPO := Lib.hid hpo
      have HST := Lib.hid hst
      clear hc hmem hst hp hrow hpo
      go_upto_region 6 with fail
      generalize hwy : World.alloc wr _ = wy
      have KO : OcV wy wr.heap.size ⟨.slice A1 n1 c1, pl, pg⟩ := by rw [← hwy]; exact OcV.new wr ⟨.slice A1 n1 c1, pl, pg⟩
      have BY : Hid (Below wr.heap.size wr wy) := by show Below _ _ _; rw [← hwy]; exact (Below.refl _ _).alloc (Nat.le_refl _) _
      obtain ⟨po, hpo⟩ : ∃ p, wr.heap.size = p := ⟨_, rfl⟩
      rw [hpo] at KO
      rw [hpo]
      have HPO2 := Lib.hid hpo
      clear hwy hpo a0 a1 a2 p0 p1
      have KH := Lib.hid KO
      have HPOY := Lib.hid KO
      obtain ⟨⟨t0, t1⟩, g0, g1⟩ := KO.cells
      have hpl' : Hid (pl.length ≤ 900) := hpl
      clear hpl
      have arm25 : Hid True := trivial
      rcases hhow with h0 | h1
      · subst h0
        have HM' : Hid (∀ W (l : List St) (u : Value), RowS W u l → l.length ≤ 900 → (∀ s ∈ l, okSt s) → Calls Try.prog 25 #[u] W fun e w' => (∃ A n c, e = .returned (.slice A n c) ∧ RowS w' (.slice A n c) (l.map f)) ∧ Below W.heap.size W w') := fun W l u a b c => by
          have := HM.out W l u a b c
          rwa [if_pos rfl] at this
        clear HM
        go_upto_region 9 with (first
          | (go_at_call 25; (with_reducible refine (HM'.out _ pl _ (HROW.out.up BY.out) hpl'.out HPO.out).mono ?_); rintro e1 w6 ⟨⟨A6, n6, c6, rfl, hr6⟩, hb6⟩; have R6 := Lib.hid hr6; have B6 := Lib.hid hb6; replace KH := Lib.hid (KH.out.up hb6); clear hr6 hb6 t0 t1 g0 g1; obtain ⟨⟨t0, t1⟩, g0, g1⟩ := KH.out.cells)
          | (go_at_call 41; (with_reducible refine (H41.out _ (pl.map f) _ R6.out (by rw [List.length_map]; exact hpl'.out)).mono ?_); rintro e1 w7 ⟨⟨A7, n7, c7, rfl, hr7, hA7⟩, hb7⟩; have R7 := Lib.hid hr7; have A7' := Lib.hid hA7.out; have B7 := Lib.hid hb7; replace KH := Lib.hid (KH.out.up hb7); clear hr7 hA7 hb7 t0 t1 g0 g1; obtain ⟨⟨t0, t1⟩, g0, g1⟩ := KH.out.cells))
        generalize hw8 : World.setCell w7 _ _ = w8
        have ST : Hid (OcV w8 po ⟨.slice A7 n7 c7, srtQ (pl.map f) 16, pg⟩ ∧ Below wr.heap.size wr w8 ∧ RowS w8 (.slice A7 n7 c7) (srtQ (pl.map f) 16) ∧ ∀ g o, A7 = some ⟨g, o, none⟩ → po < g ∧ g < w8.heap.size) := by
          show _ ∧ _
          rw [← hw8]
          have gs : w7.grownBy _ (some po) := grown_set w7 ⟨po, 0, none⟩ (.slice A7 n7 c7)
          have hz1 := BY.out.size
          have hz2 := B6.out.size
          have hz3 := B7.out.size
          have hpy : po < wy.heap.size := HPOY.out.lt
          have hbw : Below wr.heap.size wr w7 := (BY.out.trans (B6.out.mono hz1)).trans (B7.out.mono (Nat.le_trans hz1 hz2))
          refine ⟨KH.out.set0 _ _, ?_, ?_, ?_⟩
          · exact hbw.grown gs hbw.size (fun j e => by injection e with e; have := HPO2.out; omega)
          · exact R7.out.keptA gs (fun g o e => by have := A7'.out g o e; omega)
          · intro g o e
            have := A7'.out g o e
            have := gs.size
            omega
        clear hw8 t0 t1 g0 g1 KH HPOY R6 R7 A7' B6 B7 HROW HPO hpl' arm25
        have SR8 := Lib.hid (SR.out.up ST.out.2.1)
        have HC8 := Lib.hid (HC.out.up ST.out.2.1)
        have HB8 := Lib.hid (HB.out.trans (ST.out.2.1.mono HB.out.size))
        obtain ⟨⟨t0, t1⟩, -⟩ := ST.out.1.cells
        have hz := HB8.out.size
        have hz4 := S.out.2.2.2
        have K2 : Hid ((w8.alloc (.cells #[.slice A7 n7 c7, .bool pg] 46)).ownsRow (w.heap.size + 2) 46 2 u5 k (D.flatMap oC)) := HC8.out.own.alloc _
        have B2 : Hid (Below wx.heap.size wx (w8.alloc (.cells #[.slice A7 n7 c7, .bool pg] 46))) := HB8.out.alloc hz _
        have NW := Lib.hid (news_oc w8 ⟨.slice A7 n7 c7, srtQ (pl.map f) 16, pg⟩)
        go_wp2_with (at_builtin; refine wpList_append_own_at _ rfl _ _ 38 rfl (w.heap.size + 2) 46 i0 _ 2 32 Try.underlying38 hi hz0 hz1 hz2 rfl (by decide) _ _ _ rfl K2.out ⟨w8.heap.size, 0, none⟩ 1 1 (oC ⟨.slice A7 n7 c7, srtQ (pl.map f) 16, pg⟩) rfl rfl NW.out (by simp [oC, Value.oneCell']) (by unfold maxLen; omega) (by omega) (by simp; omega) ?_; intro v' w9 hown hgrow hnn hob; have HO9 := Lib.hid hown; have HG9 := Lib.hid hgrow; have HOB := Lib.hid hob; clear hown hgrow hnn hob)
        have OO : Hid (ChL w w9 v' (k + 1) (D ++ [⟨.slice A7 n7 c7, srtQ (pl.map f) 16, pg⟩])) := by
          have hlt5 := (HC.out.own).lt
          have hpo := HPO2.out
          have hb := HB.out.size
          refine ⟨?_, by rw [List.length_append, HC.out.2.1]; rfl, ?_⟩
          · have := HO9.out
            show World.ownsRow _ _ _ _ _ _ _
            rw [List.length_append, HC.out.2.1, List.flatMap_append, List.flatMap_singleton]
            exact this
          · have o1 : OcO w8 (w.heap.size + 2) u5.ownBlock (D ++ [⟨.slice A7 n7 c7, srtQ (pl.map f) 16, pg⟩]) := HC8.out.2.2.snoc ⟨ST.out.2.2.1, _, _, _, rfl, fun g o e => by
              have h1 := ST.out.2.2.2 g o e
              refine ⟨by omega, h1.2, fun e2 => ?_⟩
              have := hlt5 g e2.symm
              omega⟩
            exact (o1.up ((Below.refl _ _).alloc (Nat.le_refl _) _)).grown HG9.out HOB.out
        have B9 : Hid (Below wx.heap.size wx w9) := B2.out.grown HG9.out (by have := HG9.out.size; simp at this ⊢; omega) (fun j hj => by have := (HC.out.own).lt j hj; have := HSZ.out; omega)
        clear HO9 HG9 HOB K2 NW B2 t0 t1
        have hdm : Hid ((D ++ [(⟨.slice A7 n7 c7, srtQ (pl.map f) 16, pg⟩ : Oc)]).map oP = chgP f (P.take (k + 1))) := by
          show _ = _
          rw [HST.out, List.map_append, HD.out]
          unfold chgP
          rw [List.map_append]
          rfl
        go_roundw
        case rel => exact ⟨k + 1, by omega, by go_num, ⟨_, OO.out, hdm.out⟩, B9⟩
        case measure => simp [intOf]; omega
      · subst h1
        have HM' : Hid (∀ W (l : List St) (u : Value), RowS W u l → l.length ≤ 900 → (∀ s ∈ l, okSt s) → Calls Try.prog 26 #[u] W fun e w' => (∃ A n c, e = .returned (.slice A n c) ∧ RowS w' (.slice A n c) (l.map f)) ∧ Below W.heap.size W w') := fun W l u a b c => by
          have := HM.out W l u a b c
          rwa [if_neg (by decide)] at this
        clear HM
        go_upto_region 9 with (first
          | (go_at_call 26; (with_reducible refine (HM'.out _ pl _ (HROW.out.up BY.out) hpl'.out HPO.out).mono ?_); rintro e1 w6 ⟨⟨A6, n6, c6, rfl, hr6⟩, hb6⟩; have R6 := Lib.hid hr6; have B6 := Lib.hid hb6; replace KH := Lib.hid (KH.out.up hb6); clear hr6 hb6 t0 t1 g0 g1; obtain ⟨⟨t0, t1⟩, g0, g1⟩ := KH.out.cells)
          | (go_at_call 41; (with_reducible refine (H41.out _ (pl.map f) _ R6.out (by rw [List.length_map]; exact hpl'.out)).mono ?_); rintro e1 w7 ⟨⟨A7, n7, c7, rfl, hr7, hA7⟩, hb7⟩; have R7 := Lib.hid hr7; have A7' := Lib.hid hA7.out; have B7 := Lib.hid hb7; replace KH := Lib.hid (KH.out.up hb7); clear hr7 hA7 hb7 t0 t1 g0 g1; obtain ⟨⟨t0, t1⟩, g0, g1⟩ := KH.out.cells))
        generalize hw8 : World.setCell w7 _ _ = w8
        have ST : Hid (OcV w8 po ⟨.slice A7 n7 c7, srtQ (pl.map f) 16, pg⟩ ∧ Below wr.heap.size wr w8 ∧ RowS w8 (.slice A7 n7 c7) (srtQ (pl.map f) 16) ∧ ∀ g o, A7 = some ⟨g, o, none⟩ → po < g ∧ g < w8.heap.size) := by
          show _ ∧ _
          rw [← hw8]
          have gs : w7.grownBy _ (some po) := grown_set w7 ⟨po, 0, none⟩ (.slice A7 n7 c7)
          have hz1 := BY.out.size
          have hz2 := B6.out.size
          have hz3 := B7.out.size
          have hpy : po < wy.heap.size := HPOY.out.lt
          have hbw : Below wr.heap.size wr w7 := (BY.out.trans (B6.out.mono hz1)).trans (B7.out.mono (Nat.le_trans hz1 hz2))
          refine ⟨KH.out.set0 _ _, ?_, ?_, ?_⟩
          · exact hbw.grown gs hbw.size (fun j e => by injection e with e; have := HPO2.out; omega)
          · exact R7.out.keptA gs (fun g o e => by have := A7'.out g o e; omega)
          · intro g o e
            have := A7'.out g o e
            have := gs.size
            omega
        clear hw8 t0 t1 g0 g1 KH HPOY R6 R7 A7' B6 B7 HROW HPO hpl' arm25
        have SR8 := Lib.hid (SR.out.up ST.out.2.1)
        have HC8 := Lib.hid (HC.out.up ST.out.2.1)
        have HB8 := Lib.hid (HB.out.trans (ST.out.2.1.mono HB.out.size))
        obtain ⟨⟨t0, t1⟩, -⟩ := ST.out.1.cells
        have hz := HB8.out.size
        have hz4 := S.out.2.2.2
        have K2 : Hid ((w8.alloc (.cells #[.slice A7 n7 c7, .bool pg] 46)).ownsRow (w.heap.size + 2) 46 2 u5 k (D.flatMap oC)) := HC8.out.own.alloc _
        have B2 : Hid (Below wx.heap.size wx (w8.alloc (.cells #[.slice A7 n7 c7, .bool pg] 46))) := HB8.out.alloc hz _
        have NW := Lib.hid (news_oc w8 ⟨.slice A7 n7 c7, srtQ (pl.map f) 16, pg⟩)
        go_wp2_with (at_builtin; refine wpList_append_own_at _ rfl _ _ 38 rfl (w.heap.size + 2) 46 i0 _ 2 32 Try.underlying38 hi hz0 hz1 hz2 rfl (by decide) _ _ _ rfl K2.out ⟨w8.heap.size, 0, none⟩ 1 1 (oC ⟨.slice A7 n7 c7, srtQ (pl.map f) 16, pg⟩) rfl rfl NW.out (by simp [oC, Value.oneCell']) (by unfold maxLen; omega) (by omega) (by simp; omega) ?_; intro v' w9 hown hgrow hnn hob; have HO9 := Lib.hid hown; have HG9 := Lib.hid hgrow; have HOB := Lib.hid hob; clear hown hgrow hnn hob)
        have OO : Hid (ChL w w9 v' (k + 1) (D ++ [⟨.slice A7 n7 c7, srtQ (pl.map f) 16, pg⟩])) := by
          have hlt5 := (HC.out.own).lt
          have hpo := HPO2.out
          have hb := HB.out.size
          refine ⟨?_, by rw [List.length_append, HC.out.2.1]; rfl, ?_⟩
          · have := HO9.out
            show World.ownsRow _ _ _ _ _ _ _
            rw [List.length_append, HC.out.2.1, List.flatMap_append, List.flatMap_singleton]
            exact this
          · have o1 : OcO w8 (w.heap.size + 2) u5.ownBlock (D ++ [⟨.slice A7 n7 c7, srtQ (pl.map f) 16, pg⟩]) := HC8.out.2.2.snoc ⟨ST.out.2.2.1, _, _, _, rfl, fun g o e => by
              have h1 := ST.out.2.2.2 g o e
              refine ⟨by omega, h1.2, fun e2 => ?_⟩
              have := hlt5 g e2.symm
              omega⟩
            exact (o1.up ((Below.refl _ _).alloc (Nat.le_refl _) _)).grown HG9.out HOB.out
        have B9 : Hid (Below wx.heap.size wx w9) := B2.out.grown HG9.out (by have := HG9.out.size; simp at this ⊢; omega) (fun j hj => by have := (HC.out.own).lt j hj; have := HSZ.out; omega)
        clear HO9 HG9 HOB K2 NW B2 t0 t1
        have hdm : Hid ((D ++ [(⟨.slice A7 n7 c7, srtQ (pl.map f) 16, pg⟩ : Oc)]).map oP = chgP f (P.take (k + 1))) := by
          show _ = _
          rw [HST.out, List.map_append, HD.out]
          unfold chgP
          rw [List.map_append]
          rfl
        go_roundw
        case rel => exact ⟨k + 1, by omega, by go_num, ⟨_, OO.out, hdm.out⟩, B9⟩
        case measure => simp [intOf]; omega
    · obtain rfl : k = n := by omega
      obtain ⟨A9, c9, hu⟩ : ∃ A c, u5 = .slice A k c := by
        rcases (HC.out.own).2 with ⟨h1, h0⟩ | ⟨g, cap, cur, h1, -⟩
        · exact ⟨none, 0, by rw [h1, h0]⟩
        · exact ⟨_, _, h1⟩
      subst hu
      have HQ : Hid (D.map oP = chgP f P) := by
        show _ = _
        have e1 : P.length = k := by rw [← HLP.out, List.length_map]; exact HN.out
        rw [HD.out, ← e1, List.take_length]
      obtain ⟨z0, z1, z2⟩ := SR.out.2.1.cells.2
      clear HM H41 HR HOR HOK HN HLP HD hlt
      have X := Lib.hid (fun (q : Int) (wt : World) (hg : wr.grownBy wt (some w.heap.size)) => ch_end (r := r) (q := q) SR.out HC.out (by omega) HQ.out rfl hg)
      go_upto_region 11 with fail
      generalize hws : World.setCell wr _ _ = ws
      have GS : Hid (wr.grownBy ws (some w.heap.size)) := by show World.grownBy _ _ _; rw [← hws]; exact grown_set wr ⟨w.heap.size, 2, none⟩ _
      have RS : Hid (R3 ws w.heap.size r ch (.slice A9 k c9)) := by show R3 _ _ _ _ _; rw [← hws]; exact SR.out.2.1.set2 _
      clear hws a0 a1 a2 z0 z1 z2
      obtain ⟨⟨a0, a1, a2⟩, z0, z1, z2⟩ := RS.out.cells
      by_cases hc : how = 1 ∧ 0 ≤ ch
      · obtain ⟨rfl, h0⟩ := hc
        have hd1 : decide (0 ≤ ch) = true := decide_eq_true h0
        have hq : chgR 1 ch = 1 - ch := by unfold chgR; rw [if_pos ⟨rfl, h0⟩]
        go_upto_region 13 with fail
        generalize hwt : World.setCell ws _ _ = wt
        have RT : Hid (R3 wt w.heap.size r (1 - ch) (.slice A9 k c9)) := by show R3 _ _ _ _ _; rw [← hwt]; exact RS.out.set1 _
        have GT : Hid (wr.grownBy wt (some w.heap.size)) := by show World.grownBy _ _ _; rw [← hwt]; exact GS.out.trans (grown_set ws ⟨w.heap.size, 1, none⟩ _)
        obtain ⟨XZ, XW⟩ := X.out (1 - ch) wt GT.out
        have XZH := Lib.hid XZ
        have XWH := Lib.hid XW
        clear hwt a0 a1 a2 z0 z1 z2 XZ XW X
        obtain ⟨⟨a0, a1, a2⟩, z0, z1, z2⟩ := RT.out.cells
        obtain ⟨⟨b0, b1, b2⟩, y0, y1, y2⟩ := XZH.out.cells
        go_wp2_with fail
        refine bodyPost_ret (results_r3 rfl _ _ rfl (set3 XZH.out r (1 - ch) (.slice A9 k c9)) ⟨_, _, _, rfl⟩) rfl ?_
        exact ⟨⟨A9, k, c9, by rw [hq], XWH.out.1⟩, XWH.out.2⟩
      · have hq : chgR how ch = ch := by unfold chgR; rw [if_neg hc]
        obtain ⟨XZ, XW⟩ := X.out ch ws GS.out
        have XZH := Lib.hid XZ
        have XWH := Lib.hid XW
        clear XZ XW X
        obtain ⟨⟨b0, b1, b2⟩, y0, y1, y2⟩ := XZH.out.cells
        rcases hhow with rfl | rfl
        · go_wp2_with fail
          refine bodyPost_ret (results_r3 rfl _ _ rfl (set3 XZH.out r ch (.slice A9 k c9)) ⟨_, _, _, rfl⟩) rfl ?_
          exact ⟨⟨A9, k, c9, by rw [hq], XWH.out.1⟩, XWH.out.2⟩
        · have hd1 : decide (0 ≤ ch) = false := decide_eq_false (fun h => hc ⟨rfl, h⟩)
          have hd2 : ¬ 0 ≤ ch := fun h => hc ⟨rfl, h⟩
          go_wp2_with fail
          refine bodyPost_ret (results_r3 rfl _ _ rfl (set3 XZH.out r ch (.slice A9 k c9)) ⟨_, _, _, rfl⟩) rfl ?_
          exact ⟨⟨A9, k, c9, by rw [hq], XWH.out.1⟩, XWH.out.2⟩
end Go.Proofs.Ytomcpgdpjpjioaa
