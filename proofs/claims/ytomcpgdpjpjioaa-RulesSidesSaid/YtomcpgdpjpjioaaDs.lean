/- Contract: distinct. -/
import Derived.Test.YtomcpgdpjpjioaaOc
namespace Go.Proofs.Ytomcpgdpjpjioaa
open Go.RowKit Go.Proofs Go.Shelf
attribute [local go_sem] Oper.semAt_some

theorem Try.info46 : (Try.prog.info? 46).map (fun i => (i.zero, i.size, i.bytes)) = some (some (.agg #[.slice none 0 0, .bool false]), 2, 32) := by kernel_rfl
/-- Outcomes without those that are there already. -/
def dd (L : List Oc) : List Oc := L.foldl (fun out o => if (out.any fun p => samO p o) = true then out else out ++ [o]) []
theorem dd_snoc (L : List Oc) (o : Oc) : dd (L ++ [o]) = if ((dd L).any fun p => samO p o) = true then dd L else dd L ++ [o] := by
  unfold dd; rw [List.foldl_append]; rfl
theorem dd_mem (L : List Oc) : ∀ p ∈ dd L, p ∈ L := by
  have H : ∀ k, k ≤ L.length → ∀ p ∈ dd (L.take k), p ∈ L := by
    intro k
    induction k with
    | zero => intro _ p hp; simp [dd] at hp
    | succ k ih =>
      intro hk p hp
      have hlt : k < L.length := by omega
      rw [List.take_succ_eq_append_getElem hlt, dd_snoc] at hp
      split at hp
      · exact ih (by omega) p hp
      · rcases List.mem_append.1 hp with h | h
        · exact ih (by omega) p h
        · rw [List.mem_singleton.1 h]; exact List.getElem_mem hlt
  have := H L.length (Nat.le_refl _)
  rwa [List.take_length] at this
theorem dd_len (L : List Oc) : ∀ k, k ≤ L.length → (dd (L.take k)).length ≤ k := by
  intro k
  induction k with
  | zero => intro _; simp [dd]
  | succ k ih =>
    intro hk
    have hlt : k < L.length := by omega
    have := ih (by omega)
    rw [List.take_succ_eq_append_getElem hlt, dd_snoc]
    split
    · omega
    · rw [List.length_append, List.length_singleton]; omega
theorem dd_takemem (L : List Oc) (k : Nat) : ∀ p ∈ dd (L.take k), p ∈ L := fun p hp => List.mem_of_mem_take (dd_mem _ p hp)
theorem news_oc (W : World) (p : Oc) : ∀ j u, (oC p)[j]? = some u → (W.alloc (Oco p)).cell? ((⟨W.heap.size, 0, none⟩ : Addr).add j) = some u := by
  intro j u hu
  have h := World.alloc_heap_new W (Oco p)
  rw [Addr.add_mid]
  unfold World.cell?
  rw [h]
  rcases j with _ | _ | j <;> simp [oC] at hu <;> subst hu <;> rfl
theorem ownO_up {base n : Nat} {v : Value} {xs : List Value} {W w2 : World} (h : W.ownsRow base 46 2 v n xs) (hb : Below W.heap.size W w2) : w2.ownsRow base 46 2 v n xs := by
  obtain ⟨q1, q2⟩ := h
  refine ⟨q1, q2.imp_right ?_⟩
  rintro ⟨g, cap, cur, q3, q4, q5, q6⟩
  exact ⟨g, cap, cur, q3, q4, boxed_cells_up q5 hb, q6⟩
/-- The contract of distinct. -/
def DisC (L : List Oc) (w : World) (e : Ending) (w' : World) : Prop := (∃ A c, e = .returned (.slice A (dd L).length c) ∧ OwnO w.heap.size w' (.slice A (dd L).length c) (dd L)) ∧ Below w.heap.size w w'

set_option maxRecDepth 100000 in
set_option maxHeartbeats 2000000 in
theorem dist66 (L : List Oc) (v : Value) (w : World) (hrow : RowO w v L) (hL : OcR w L) (hl : L.length ≤ 900) : Calls Try.prog 66 #[v] w (DisC L w) := by
  obtain ⟨i0, hi, hz0, hz1, hz2⟩ := info_parts Try.info46
  obtain ⟨A, cap, rfl, hlc, ⟨hcap, hcmx⟩, hcells⟩ := hrow
  have HR := Lib.hid hcells
  have HLR := Lib.hid hL
  clear hcells hcmx hL
  go_enter Try.func66, Try.ntmps66
  go_wp2_with fail
  have O0 : Hid (w.ownsRow w.heap.size 46 2 (.slice none 0 0) 0 ((dd (L.take 0)).flatMap oC)) := World.ownsRow_nil _ _ _ _
  have B0 : Hid (Below w.heap.size w w) := Below.refl _ _
  go_loopw [3, 8] (fun u iv wr => ∃ (k n : Nat), k ≤ L.length ∧ n = (dd (L.take k)).length ∧ iv = .int .i64 k ∧ Hid (wr.ownsRow w.heap.size 46 2 u n ((dd (L.take k)).flatMap oC)) ∧ Hid (Below w.heap.size w wr)) (fun _ iv _ => L.length - (intOf iv).toNat)
  case atStart => exact ⟨0, 0, by omega, rfl, rfl, O0, B0⟩
  case round =>
    obtain ⟨k, n, hk, hn, rfl, ho, hb⟩ := hrel
    have HB := Lib.hid hb.out
    have HO := Lib.hid ho.out
    have HN := Lib.hid hn
    clear ho hb O0 B0
    by_cases hlt : k < L.length
    · have hlt' : (k : Int) < (L.length : Int) := by omega
      obtain ⟨b, o, rfl, hc⟩ := HR.out (by intro h; subst h; simp at hlt)
      obtain ⟨a0, a1⟩ := (hc k hlt).up HB.out
      have hmem := List.getElem_mem hlt
      have hdk := dd_len L k (by omega)
      rw [← hn] at hdk
      have hst : dd (L.take (k + 1)) = if ((dd (L.take k)).any fun p => samO p (L[k]'hlt)) = true then dd (L.take k) else dd (L.take k) ++ [L[k]'hlt] := by rw [List.take_succ_eq_append_getElem hlt, dd_snoc]
      obtain ⟨p, hp⟩ : ∃ p, L[k]'hlt = p := ⟨_, rfl⟩
      rw [hp] at a0 a1 hmem hst
      have H91 : Hid (∀ W, Below w.heap.size w W → ∀ po, OcAt W po 0 p → wr.heap.size ≤ W.heap.size → (∀ u n xs, wr.ownsRow w.heap.size 46 2 u n xs → W.ownsRow w.heap.size 46 2 u n xs) →
          Calls Try.prog 91 #[u3, .func (.func 92) #[] #[.pointer (some ⟨po, 0, none⟩)]] W (Back (.bool ((dd (L.take k)).any fun q => samO q p)) W)) := by
        intro W hW po hpo _ hkeep
        have h1 := hkeep _ _ _ HO.out
        rw [HN.out] at h1
        exact cont91 p po (dd (L.take k)) _ W (RowO.of_own h1 (by rw [← HN.out]; omega)) (fun q hq => (HLR.out q (dd_takemem L k q hq)).up hW) hpo ((HLR.out p hmem).up hW)
      obtain ⟨q, hq⟩ : ∃ q, ((dd (L.take k)).any fun q => samO q p) = q := ⟨_, rfl⟩
      rw [hq] at H91 hst
      have HST := Lib.hid hst
      obtain ⟨A2, n2, c2, hv2⟩ : ∃ A n c, p.v = .slice A n c := by obtain ⟨A, c, h, -⟩ := HLR.out p hmem; exact ⟨A, _, c, h⟩
      clear hq hp hst hc hmem hn
      obtain ⟨v2, l2, g2⟩ := p
      simp only at hv2
      subst hv2
      simp only at a0 a1
      go_upto_region 5 with fail
      generalize hwx : World.alloc wr _ = wx
      have KX : Hid (OcAt wx wr.heap.size 0 ⟨.slice A2 n2 c2, l2, g2⟩) := by show OcAt _ _ _ _; rw [← hwx]; exact OcAt.new wr ⟨.slice A2 n2 c2, l2, g2⟩
      have BX : Hid (Below w.heap.size w wx) := by show Below _ _ _; rw [← hwx]; exact HB.out.alloc HB.out.size _
      have OX : Hid (∀ u n xs, wr.ownsRow w.heap.size 46 2 u n xs → wx.ownsRow w.heap.size 46 2 u n xs) := by intro u n xs h; rw [← hwx]; exact h.alloc _
      have hsz : wr.heap.size ≤ wx.heap.size := by rw [← hwx]; simp
      clear hwx a0 a1
      rcases q with _ | _
      · go_upto_region 6 with (go_at_call 91; (with_reducible refine (H91.out _ BX.out _ KX.out hsz OX.out).mono ?_); rintro e w1 ⟨rfl, hb1⟩; have HB1 := Lib.hid (BX.out.trans (hb1.mono BX.out.size)); have HO1 := Lib.hid (ownO_up (OX.out _ _ _ HO.out) hb1); have K1 := Lib.hid (KX.out.up hb1); clear hb1 KX BX OX hsz H91)
        obtain ⟨c0, c1⟩ := K1.out
        simp only [Nat.zero_add] at c0 c1
        have hz := HB1.out.size
        have K2 : Hid ((w1.alloc (.cells #[.slice A2 n2 c2, .bool g2] 46)).ownsRow w.heap.size 46 2 u3 n ((dd (L.take k)).flatMap oC)) := HO1.out.alloc _
        have B2 : Hid (Below w.heap.size w (w1.alloc (.cells #[.slice A2 n2 c2, .bool g2] 46))) := HB1.out.alloc hz _
        have NW := Lib.hid (news_oc w1 ⟨.slice A2 n2 c2, l2, g2⟩)
        go_wp2_with (at_builtin; refine wpList_append_own _ rfl _ _ 38 rfl w.heap.size 46 i0 _ 2 32 Try.underlying38 hi hz0 hz1 hz2 rfl (by decide) _ _ _ rfl K2.out ⟨w1.heap.size, 0, none⟩ 1 1 (oC ⟨.slice A2 n2 c2, l2, g2⟩) rfl rfl NW.out (by simp [oC, Value.oneCell']) (by unfold maxLen; omega) (by omega) (by simp; omega) ?_; intro v' w5 hown hgrow hnn; have B5 := Lib.hid (B2.out.grown hgrow (by simp; omega) (fun j hj => (ownBlock_ge K2.out hj).1)); have HO5 := Lib.hid hown; clear hown hgrow hnn)
        go_roundw
        case rel => exact ⟨k + 1, n + 1, by omega, by rw [HST.out, HN.out]; simp, by go_num, by show World.ownsRow _ _ _ _ _ _ _; rw [HST.out]; simpa using HO5.out, B5.out⟩
        case measure => simp [intOf]; omega
      · go_wp2_with (go_at_call 91; (with_reducible refine (H91.out _ BX.out _ KX.out hsz OX.out).mono ?_); rintro e w1 ⟨rfl, hb1⟩; have HB1 := Lib.hid (BX.out.trans (hb1.mono BX.out.size)); have HO1 := Lib.hid (ownO_up (OX.out _ _ _ HO.out) hb1); clear hb1 KX BX OX hsz H91)
        go_roundw
        case rel => exact ⟨k + 1, n, by omega, by rw [HST.out, HN.out]; simp, by go_num, by show World.ownsRow _ _ _ _ _ _ _; rw [HST.out]; simpa using HO1.out, HB1.out⟩
        case measure => simp [intOf]; omega
    · obtain rfl : k = L.length := by omega
      have hf := HO.out
      have hn2 := HN.out
      rw [List.take_length] at hf hn2
      obtain ⟨A1, c1, hu⟩ : ∃ A c, u3 = .slice A n c := by
        rcases hf.2 with ⟨h1, h0⟩ | ⟨g, cap, cur, h1, -⟩
        · exact ⟨none, 0, by rw [h1, h0]⟩
        · exact ⟨_, _, h1⟩
      subst hu
      have hfin : DisC L w (.returned (.slice A1 n c1)) wr := by
        rw [hn2] at hf
        exact ⟨⟨A1, c1, by rw [hn2], hf⟩, HB.out⟩
      have HFIN := Lib.hid hfin
      clear hfin hf hn2 hn HN
      go_wp2_with fail
      exact bodyPost_ret (v := .slice A1 n c1) (by simp [results, Try.results66, go_sem]) rfl HFIN.out
end Go.Proofs.Ytomcpgdpjpjioaa
