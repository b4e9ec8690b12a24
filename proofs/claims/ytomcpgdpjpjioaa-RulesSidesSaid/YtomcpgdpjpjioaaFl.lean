/- Contract of the document's distinct. -/
import Derived.Test.YtomcpgdpjpjioaaFj
import Derived.Test.YtomcpgdpjpjioaaDs
namespace Go.Proofs.Ytomcpgdpjpjioaa
open Go.RowKit Go.Proofs Go.Shelf
attribute [local go_sem] Oper.semAt_some

theorem samO_iff (p o : Oc) : samO p o = true ↔ p.g = o.g ∧ p.l = o.l := by unfold samO; rw [Bool.and_eq_true, eqL_iff]; simp
theorem dd_any (o : Oc) (L : List Oc) : ∀ q, q ≤ L.length → ((dd (L.take q)).any fun p => samO p o) = ((L.take q).any fun p => samO p o) := by
  intro q
  induction q with
  | zero => intro _; simp [dd]
  | succ q ih =>
    intro hq
    have hlt : q < L.length := by omega
    rw [List.take_succ_eq_append_getElem hlt, dd_snoc, List.any_append]
    by_cases h : ((dd (L.take q)).any fun p => samO p (L[q]'hlt)) = true
    · rw [if_pos h, ih (by omega)]
      cases hs : samO (L[q]'hlt) o
      · simp [hs]
      · have : ((L.take q).any fun p => samO p o) = true := by
          rw [List.any_eq_true] at h
          obtain ⟨r, hr, hr2⟩ := h
          have h1 := (samO_iff _ _).1 hr2
          have h2 := (samO_iff _ _).1 hs
          have h3 : samO r o = true := (samO_iff _ _).2 ⟨h1.1.trans h2.1, h1.2.trans h2.2⟩
          rw [← ih (by omega), List.any_eq_true]
          exact ⟨r, hr, h3⟩
        simp [this]
    · rw [if_neg h, List.any_append, ih (by omega)]

set_option maxRecDepth 100000 in
set_option maxHeartbeats 4000000 in
theorem dist44 (L : List Oc) (v : Value) (w : World) (hrow : RowO w v L) (hL : OcR w L) (hl : L.length ≤ 900) : Calls Try.prog 44 #[v] w (DisC L w) := by
  obtain ⟨i0, hi, hz0, hz1, hz2⟩ := info_parts Try.info46
  obtain ⟨A, cap, rfl, hlc, ⟨hcap, hcmx⟩, hcells⟩ := hrow
  have HR := Lib.hid hcells
  have HLR := Lib.hid hL
  clear hcells hcmx hL
  go_enter Try.func44, Try.ntmps44
  go_wp2_with fail
  have O0 : Hid (w.ownsRow w.heap.size 46 2 (.slice none 0 0) 0 ((dd (L.take 0)).flatMap oC)) := World.ownsRow_nil _ _ _ _
  have B0 : Hid (Below w.heap.size w w) := Below.refl _ _
  go_loopw [3, 4] (fun u iv wr => ∃ (k n : Nat), k ≤ L.length ∧ n = (dd (L.take k)).length ∧ iv = .int .i64 k ∧ Hid (wr.ownsRow w.heap.size 46 2 u n ((dd (L.take k)).flatMap oC)) ∧ Hid (Below w.heap.size w wr)) (fun _ iv _ => L.length - (intOf iv).toNat)
  case atStart => exact ⟨0, 0, by omega, rfl, rfl, O0, B0⟩
  case round =>
    obtain ⟨k, n, hk, hn, rfl, ho, hb⟩ := hrel
    have HB := Lib.hid hb.out
    have HO := Lib.hid ho.out
    have HN := Lib.hid hn
    clear ho hb O0 B0
    rename World => w1
    by_cases hlt : k < L.length
    · have hlt' : (k : Int) < (L.length : Int) := by omega
      obtain ⟨b, o, rfl, hc⟩ := HR.out (by intro h; subst h; simp at hlt)
      have HK := Lib.hid (hc k hlt)
      have HC := Lib.hid hc
      have hmem := List.getElem_mem hlt
      have hdk := dd_len L k (by omega)
      rw [← hn] at hdk
      have hst : dd (L.take (k + 1)) = if ((L.take k).any fun p => samO p (L[k]'hlt)) = true then dd (L.take k) else dd (L.take k) ++ [L[k]'hlt] := by rw [List.take_succ_eq_append_getElem hlt, dd_snoc, dd_any _ L k (by omega)]
      obtain ⟨p, hp⟩ : ∃ p, L[k]'hlt = p := ⟨_, rfl⟩
      rw [hp] at HK hmem hst
      have HST := Lib.hid hst
      have HM := Lib.hid (HLR.out p hmem)
      clear hp hst hc hmem hn
      go_wp2_with fail
      go_loopw [5, 6] (fun bv jv wr => ∃ j : Nat, j ≤ k ∧ jv = .int .i64 j ∧ Hid (bv = .bool (!((L.take j).any fun q => samO q p))) ∧ Hid (Below w1.heap.size w1 wr)) (fun _ jv _ => k - (intOf jv).toNat)
      case atStart => exact ⟨0, by omega, rfl, by show _ = _; simp, Below.refl _ _⟩
      case round =>
        obtain ⟨j, hj, rfl, hbv, hb2⟩ := hrel
        have HB2 := Lib.hid hb2.out
        have hbv := hbv.out
        obtain ⟨x, hx⟩ : ∃ x, ((L.take j).any fun q => samO q p) = x := ⟨_, rfl⟩
        rw [hx] at hbv
        subst hbv
        have HX := Lib.hid hx
        have HB3 := Lib.hid (HB.out.trans (HB2.out.mono HB.out.size))
        clear hb2 hx
        by_cases hjl : j < k
        · have hjl' : (j : Int) < (k : Int) := by omega
          have hjL : j < L.length := by omega
          have hjL' : (j : Int) < (L.length : Int) := by omega
          obtain ⟨a0, a1⟩ := HK.out.up HB3.out
          obtain ⟨q0, q1⟩ := (HC.out j hjL).up HB3.out
          obtain ⟨r, hr⟩ : ∃ r, L[j]'hjL = r := ⟨_, rfl⟩
          have hrm : r ∈ L := by rw [← hr]; exact List.getElem_mem hjL
          rw [hr] at q0 q1
          have hstep : ((L.take (j + 1)).any fun q => samO q p) = (x || samO r p) := by rw [List.take_succ_eq_append_getElem hjL, List.any_append, HX.out, hr]; simp
          obtain ⟨y, hy⟩ : ∃ y, samO r p = y := ⟨_, rfl⟩
          rw [hy] at hstep
          have HSP := Lib.hid hstep
          have H50 : Hid (∀ X : BW wr, Calls Try.prog 50 #[Ocv r, Ocv p] X.to (Back (.bool y) X.to)) := fun X => by rw [← hy]; exact Alike50 r p X.to (((HLR.out r hrm).up HB3.out).up X.same) ((HM.out.up HB3.out).up X.same)
          obtain ⟨A1, n1, c1, hv1⟩ : ∃ A n c, r.v = .slice A n c := by obtain ⟨A, c, h, -⟩ := HLR.out r hrm; exact ⟨A, _, c, h⟩
          obtain ⟨A2, n2, c2, hv2⟩ : ∃ A n c, p.v = .slice A n c := by obtain ⟨A, c, h, -⟩ := HM.out; exact ⟨A, _, c, h⟩
          obtain ⟨rv, rl, rg⟩ := r
          simp only at hv1 q0 q1 H50
          subst hv1
          obtain ⟨pv', pl, pg⟩ := p
          simp only at hv2 a0 a1 H50
          subst hv2
          clear hr hrm hstep hy
          go_upto_region 9 with fail
          have A0 := fun X : BW wr => upc a0 X.same
          have A1' := fun X : BW wr => upc a1 X.same
          have Q0 := fun X : BW wr => upc q0 X.same
          have Q1 := fun X : BW wr => upc q1 X.same
          clear a0 a1 q0 q1
          refine wp_region_quietB (by kernel_rfl) (by kernel_rfl) ?_
          repeat (go_big_quiet_step ((go_at_call 50; exact quietB (H50.out _))))
          refine wpQuiet_nil ?_
          rintro _ ⟨⟨wu, hbu⟩, rfl⟩
          have HB4 := Lib.hid (HB2.out.trans (hbu.mono HB2.out.size))
          clear A0 A1' Q0 Q1 hbu
          cases y
          all_goals
            go_wp2_with fail
            go_roundw
            case rel => exact ⟨j + 1, by omega, by go_num, by show _ = _; rw [HSP.out]; simp, HB4⟩
            case measure => simp [intOf]; omega
        · obtain rfl : j = k := by omega
          cases x
          · obtain ⟨a0, a1⟩ := HK.out.up HB3.out
            obtain ⟨A2, n2, c2, hv2⟩ : ∃ A n c, p.v = .slice A n c := by obtain ⟨A, c, h, -⟩ := HM.out; exact ⟨A, _, c, h⟩
            obtain ⟨pv', pl, pg⟩ := p
            simp only at hv2 a0 a1
            subst hv2
            have hz := HB3.out.size
            have K2 : Hid ((wr.alloc (.cells #[.slice A2 n2 c2, .bool pg] 46)).ownsRow w.heap.size 46 2 u3 n ((dd (L.take j)).flatMap oC)) := (ownO_up HO.out HB2.out).alloc _
            have B2 : Hid (Below w.heap.size w (wr.alloc (.cells #[.slice A2 n2 c2, .bool pg] 46))) := HB3.out.alloc hz _
            have NW := Lib.hid (news_oc wr ⟨.slice A2 n2 c2, pl, pg⟩)
            go_wp2_with (at_builtin; refine wpList_append_own _ rfl _ _ 38 rfl w.heap.size 46 i0 _ 2 32 Try.underlying38 hi hz0 hz1 hz2 rfl (by decide) _ _ _ rfl K2.out ⟨wr.heap.size, 0, none⟩ 1 1 (oC ⟨.slice A2 n2 c2, pl, pg⟩) rfl rfl NW.out (by simp [oC, Value.oneCell']) (by unfold maxLen; omega) (by omega) (by simp; omega) ?_; intro v' w5 hown hgrow hnn; have B5 := Lib.hid (B2.out.grown hgrow (by simp; omega) (fun j hj => (ownBlock_ge K2.out hj).1)); have HO5 := Lib.hid hown; clear hown hgrow hnn)
            go_roundw
            case rel => exact ⟨j + 1, n + 1, by omega, by rw [HST.out, if_neg (by rw [HX.out]; simp), HN.out]; simp, by go_num, by show World.ownsRow _ _ _ _ _ _ _; rw [HST.out, if_neg (by rw [HX.out]; simp)]; simpa using HO5.out, B5⟩
            case measure => simp [intOf]; omega
          · go_wp2_with fail
            go_roundw
            case rel => exact ⟨j + 1, n, by omega, by rw [HST.out, if_pos HX.out, HN.out], by go_num, by show World.ownsRow _ _ _ _ _ _ _; rw [HST.out, if_pos HX.out]; exact ownO_up HO.out HB2.out, HB3⟩
            case measure => simp [intOf]; omega
    · obtain rfl : k = L.length := by omega
      have hf := HO.out
      have hn2 := HN.out
      rw [List.take_length] at hf hn2
      obtain ⟨A1, c1, hu⟩ : ∃ A c, u3 = .slice A n c := by
        rcases hf.2 with ⟨h1, h0⟩ | ⟨g, cap, cur, h1, -⟩
        · exact ⟨none, 0, by rw [h1, h0]⟩
        · exact ⟨_, _, h1⟩
      subst hu
      have hfin : DisC L w (.returned (.slice A1 n c1)) w1 := by
        rw [hn2] at hf
        exact ⟨⟨A1, c1, by rw [hn2], hf⟩, HB.out⟩
      have HFIN := Lib.hid hfin
      clear hfin hf hn2 hn HN
      go_wp2_with fail
      exact bodyPost_ret (v := .slice A1 n c1) (by kernel_rfl) rfl HFIN.out
end Go.Proofs.Ytomcpgdpjpjioaa
