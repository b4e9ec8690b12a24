/- Layers of the proofs, joined: Tj Tl Tm Tn To Tp Tq G18 Tu G19 Tv Tw G20 Os Ua. -/
import Derived.Test.YtomcpgdpjpjioaaGreatPk4
import Derived.Test.YtomcpgdpjpjioaaGreatRows
import Derived.ProofKit
import Derived.OpenShut
import Derived.Lib.SmallJoins
/- Layer 7: Judge (document). -/
namespace Go.Proofs.YtomcpgdpjpjioaaGreat
open Go Go.RowKit Go.Proofs
attribute [local irreducible] J JQ JL JA JD

/-- Outcomes, read only. -/
abbrev rfI (t : OcT) : List It := [slsB 2 eO [⟨t.A, t.L.length, t.c, t.L⟩], slsB 4 eT (t.L.map (·.d))]
theorem ref_out {w w' : World} {L0 L : List Oc} {A : Option Addr} {c : Nat} {H : List It} (hw : Wd (bs w) H w') (hk : Pk (L0.map rwB ++ [ownB 82 2 A L.length c (L.flatMap eO)]) H) (hs : L.Sublist L0) : Wd (bs w) (ocI ⟨A, c, L⟩) w' := by
 have h := hw.closeS hk (map_nro (fun _ => rfl) L0) (hs.map rwB)
 exact h.pick (.pick (.there _ (.here _)) (.pick (.here _) (.nil _)))
def RetRJ (c : Cd) (n : Int) (l m : List St) (x : Th) (w : World) (e : Ending) (w' : World) : Prop := if judE c n l m x = 0 then Ret w (OcP (outF l m x (ruleF c n l m x))) (fun t => .tuple #[Ruv (ruleF c n l m x) (choF x (ruleF c n l m x)) t, .int .i64 0]) ocI e w'
 else Back (.tuple #[.agg #[.int .i64 0, .int .i64 0, .slice none 0 0], .int .i64 (judE c n l m x)]) w e w'
set_option maxRecDepth 100000 in
set_option maxHeartbeats 4000000 in
theorem refJudge (c : Cd) (n : Int) (l m : List St) (x : Th) (v : Value) (A2 : Option Addr) (cap2 : Nat) (w : World) (hrow : Arr 4 eT w v l) (hrow2 : Arr 4 eT w (.slice A2 m.length cap2) m) : Calls Tryz.prog 52 #[Cdv c, .int .i64 n, v, Thv x A2 m.length cap2] w (RetRJ c n l m x w) := by
 obtain ⟨kf, kt, ks, ke, kp⟩ := c
 obtain ⟨xteam, xnn, xlate, xshort, xhow⟩ := x
 have hrow0 := hrow
 obtain ⟨A, cap, rfl, -, ⟨hl9, -⟩, hA⟩ := hrow
 have hrow20 := hrow2
 dsimp only [Thv, Cdv]
 refine J_enter (fun _ => False) (vs := [.agg #[.int .i64 kf, .int .i64 kt, .int .i64 ks, .int .i64 ke, .bool kp], .int .i64 n, .slice A l.length cap, .agg #[.int .i64 xteam, .int .i64 xnn, .bool xlate, .bool xshort, .int .i64 xhow, .slice A2 m.length cap2]]) (k := 99) (l := [(0, .agg #[.int .i64 kf, .int .i64 kt, .int .i64 ks, .int .i64 ke, .bool kp]), (1, .int .i64 n), (2, .slice A l.length cap), (3, .agg #[.int .i64 xteam, .int .i64 xnn, .bool xlate, .bool xshort, .int .i64 xhow, .slice A2 m.length cap2])]) Tryz.func52 rfl rfl Tryz.ntmps52 rfl rfl (Wd.start _) ?_
 refine s2 ?_
 refine aW (oX [_, _, _, _, _]) (fun b4 hb4 => ?_)
 refine aW (oX [_, _, _, _, _, _]) (fun b7 hb7 => ?_)
 refine aW oA (fun b8 hb8 => ?_)
 refine s7 ?_
 refine aCB (fun w hw => refCheckCode (⟨kf, kt, ks, ke, kp⟩ : Cd) w) ?_
 refine JL_bool (fun h16 => ?_) (fun h16 => ?_)
 ·refine s4 ?_
  refine aCB (fun w hw => refCheckThrow l m (⟨xteam, xnn, xlate, xshort, xhow⟩ : Th) _ A2 cap2 w (hrow0.up ET hw.bel) (hrow20.up ET hw.bel)) ?_
  refine JL_bool (fun h21 => ?_) (fun h21 => ?_)
  ·refine s9 ?_
   refine kJ [(1, _), (2, _), (4, _), (7, _), (8, _)] ?_
   refine s2 ?_
   refine aCB (fun w hw => rin _ _ _ w) ?_
   refine JL_dec (fun h26 => ?_) (fun h26 => ?_)
   ·refine s7 ?_
    obtain ⟨hcl, hcm, hxt, -⟩ := thr_parts h21
    dsimp only at hxt
    have hbl := chk_bnd hcl
    have hbm := chk_bnd hcm
    have hdl := chk_dis hcl
    have hdm := chk_dis hcm
    have hl16 := (chk_facts hcl).1
    have hm16 := (chk_facts hcm).1
    have hbg : ∀ s ∈ (woL xteam xnn m), bnd s := fun s hs => hbm s (List.mem_filter.1 hs).1
    have hdg : dis (woL xteam xnn m) := dis_flt _ hdm
    have hpg : (woL xteam xnn m).Pairwise (fun a b => ¬ (a.t = b.t ∧ a.n = b.n)) := (chk_pw hcm).sublist List.filter_sublist
    have hgl : (woL xteam xnn m).length ≤ m.length := List.length_filter_le _ m
    obtain ⟨r, hr⟩ : ∃ r, r = (ruleF (⟨kf, kt, ks, ke, kp⟩ : Cd) n l m (⟨xteam, xnn, xlate, xshort, xhow⟩ : Th)) := ⟨_, rfl⟩
    refine s2 ?_
    refine aS (oS (fun w hw => refSorted l _ w (hrow0.up ET hw.bel))) (fun A30 c30 => ?_)
    rw [srtQ_srt hbl hdl (chk_pw hcl)]
    refine aP (rp_buildC (fun us => [us.getD 0 undef, .bool false]) rfl rfl (fun w => by kernel_rfl)) ?_
    refine aW oA (fun b10 hb10 => ?_)
    refine s4 ?_
    refine kJ [(1, _), (2, _), (4, _), (7, _), (8, _), (10, _)] ?_
    refine s3 ?_
    refine aS (oS (fun w hw => refSorted m _ w (hrow20.up ET hw.bel))) (fun A34 c34 => ?_)
    rw [srtQ_srt hbm hdm (chk_pw hcm)]
    refine aP (rp_buildC (fun us => [us.getD 0 undef, .bool false]) rfl rfl (fun w => by kernel_rfl)) ?_
    refine aW oA (fun b11 hb11 => ?_)
    refine s4 ?_
    refine kJ [(1, _), (2, _), (4, _), (7, _), (8, _), (10, _), (11, _)] ?_
    refine s3 ?_
    refine aP (rp_buildC (fun us => [us.getD 0 undef, us.getD 1 undef]) rfl rfl (fun w => by kernel_rfl)) ?_
    refine aW oA (fun b12 hb12 => ?_)
    refine s11 ?_
    refine aS (oS (fun w hw => refWithout xteam xnn m _ w (hrow20.up ET hw.bel) (by omega))) (fun A45 c45 => ?_)
    refine aS (oS (fun w hw => refSorted (woL xteam xnn m) _ w (own_arr (A := A45) (c := c45) ET hw (by repeat constructor) (by omega)))) (fun A46 c46 => ?_)
    rw [srtQ_srt hbg hdg hpg]
    refine aP (rp_buildC (fun us => [us.getD 0 undef, .bool false]) rfl rfl (fun w => by kernel_rfl)) ?_
    refine aW oA (fun b13 hb13 => ?_)
    refine s4 ?_
    refine kJ [(1, _), (2, _), (4, _), (7, _), (8, _), (10, _), (11, _), (12, _), (13, _)] ?_
    refine s5 ?_
    refine aCB (fun w hw => (refrule (⟨kf, kt, ks, ke, kp⟩ : Cd) n l m (⟨xteam, xnn, xlate, xshort, xhow⟩ : Th) _ A2 cap2 w (hrow0.up ET hw.bel) (hrow20.up ET hw.bel) hdm).mono (fun _ _ hh => by rw [← hr] at hh; exact hh)) ?_
    refine aP (rp_buildC (fun us => [us.getD 0 undef, us.getD 1 undef, .slice none 0 0]) rfl rfl (fun w => by kernel_rfl)) ?_
    refine aW oA (fun b14 hb14 => ?_)
    refine s5 ?_
    refine kJ [(7, _), (8, _), (10, _), (11, _), (12, _), (13, _), (14, _)] ?_
    refine s9 ?_
    refine JL_dec (fun h60 => ?_) (fun h60 => ?_)
    ·refine s4 ?_
     refine kJ [(8, _), (11, _), (14, _)] ?_
     refine s2 ?_
     refine aW (ow_sliceC (vs := [_, _]) (ty := 82) rfl rfl (by rfl) rfl rfl (fun _ => by kernel_rfl)) (fun b62 hb62 => ?_)
     refine JL_asOwn (b := b62) (kk := 2) (m := 1) (by repeat constructor) rfl (by omega) ?_
     refine s6 ?_
     refine kJ [(8, _), (14, _)] ?_
     refine s7 ?_
     refine JR_two rfl (rr_agg (cs := [_, _, _]) rfl Agg.h (Siz.h (k := 3)) (by repeat constructor) (by rfl)) (rr_tmp rfl) ?_
     have hos : ddP (List.map oP [(⟨⟨A34, (srt m).length, c34, srt m⟩, false⟩ : Oc)]) = outF l m (⟨xteam, xnn, xlate, xshort, xhow⟩ : Th) r := by unfold outF; rw [if_pos h60]; rfl
     have hch : choF (⟨xteam, xnn, xlate, xshort, xhow⟩ : Th) r = -1 := by unfold choF; rw [if_neg (by omega), if_neg (by omega), if_neg (by omega)]
     have hn : ∀ p ∈ [(⟨⟨A34, (srt m).length, c34, srt m⟩, false⟩ : Oc)], p.d.n = p.d.l.length ∧ p.d.l.length ≤ 16 := fun p hp => by
      simp only [List.mem_cons, List.not_mem_nil, or_false] at hp
      rcases hp with rfl <;> exact ⟨rfl, by dsimp only; rw [srt_len]; omega⟩
     intro w' hw
     have e : judE (⟨kf, kt, ks, ke, kp⟩ : Cd) n l m (⟨xteam, xnn, xlate, xshort, xhow⟩ : Th) = 0 := by unfold judE; rw [if_pos ⟨h16, h21⟩, if_pos h26]
     unfold RetRJ
     rw [e, if_pos rfl, ← hr]
     have hlen := ddO_len [(⟨⟨A34, (srt m).length, c34, srt m⟩, false⟩ : Oc)]
     have h2 := ref_out (L0 := [(⟨⟨A34, (srt m).length, c34, srt m⟩, false⟩ : Oc)]) (L := [(⟨⟨A34, (srt m).length, c34, srt m⟩, false⟩ : Oc)]) (A := (some ⟨b62, 0, none⟩)) (c := 1) hw (by repeat constructor) (List.Sublist.refl _)
     exact ⟨⟨(some ⟨b62, 0, none⟩), 1, [(⟨⟨A34, (srt m).length, c34, srt m⟩, false⟩ : Oc)]⟩, ⟨hos, hn⟩, by rw [hch]; rfl, h2⟩
    ·refine s7 ?_
     refine JL_dec (fun h65 => ?_) (fun h65 => ?_)
     ·refine s4 ?_
      refine kJ [(8, _), (12, _), (14, _)] ?_
      refine s2 ?_
      refine aW (ow_sliceC (vs := [_, _]) (ty := 82) rfl rfl (by rfl) rfl rfl (fun _ => by kernel_rfl)) (fun b67 hb67 => ?_)
      refine JL_asOwn (b := b67) (kk := 2) (m := 1) (by repeat constructor) rfl (by omega) ?_
      refine s6 ?_
      refine kJ [(8, _), (14, _)] ?_
      refine s7 ?_
      refine JR_two rfl (rr_agg (cs := [_, _, _]) rfl Agg.h (Siz.h (k := 3)) (by repeat constructor) (by rfl)) (rr_tmp rfl) ?_
      have hos : ddP (List.map oP [(⟨⟨A30, (srt l).length, c30, srt l⟩, true⟩ : Oc)]) = outF l m (⟨xteam, xnn, xlate, xshort, xhow⟩ : Th) r := by unfold outF; rw [if_neg h60, if_pos h65]; rfl
      have hch : choF (⟨xteam, xnn, xlate, xshort, xhow⟩ : Th) r = -1 := by unfold choF; rw [if_neg (by omega), if_neg (by omega), if_neg (by omega)]
      have hn : ∀ p ∈ [(⟨⟨A30, (srt l).length, c30, srt l⟩, true⟩ : Oc)], p.d.n = p.d.l.length ∧ p.d.l.length ≤ 16 := fun p hp => by
       simp only [List.mem_cons, List.not_mem_nil, or_false] at hp
       rcases hp with rfl <;> exact ⟨rfl, by dsimp only; rw [srt_len]; omega⟩
      intro w' hw
      have e : judE (⟨kf, kt, ks, ke, kp⟩ : Cd) n l m (⟨xteam, xnn, xlate, xshort, xhow⟩ : Th) = 0 := by unfold judE; rw [if_pos ⟨h16, h21⟩, if_pos h26]
      unfold RetRJ
      rw [e, if_pos rfl, ← hr]
      have hlen := ddO_len [(⟨⟨A30, (srt l).length, c30, srt l⟩, true⟩ : Oc)]
      have h2 := ref_out (L0 := [(⟨⟨A30, (srt l).length, c30, srt l⟩, true⟩ : Oc)]) (L := [(⟨⟨A30, (srt l).length, c30, srt l⟩, true⟩ : Oc)]) (A := (some ⟨b67, 0, none⟩)) (c := 1) hw (by repeat constructor) (List.Sublist.refl _)
      exact ⟨⟨(some ⟨b67, 0, none⟩), 1, [(⟨⟨A30, (srt l).length, c30, srt l⟩, true⟩ : Oc)]⟩, ⟨hos, hn⟩, by rw [hch]; rfl, h2⟩
     ·refine s5 ?_
      refine kJ [(7, _), (8, _), (10, _), (11, _), (12, _), (13, _), (14, _), (55, _)] ?_
      refine s2 ?_
      refine JL_dec (fun h70 => ?_) (fun h70 => ?_)
      ·refine s5 ?_
       refine kJ [(7, _), (8, _), (10, _), (11, _), (13, _), (14, _)] ?_
       refine s8 ?_
       refine kJ [(8, _), (10, _), (11, _), (13, _), (14, _)] ?_
       refine s4 ?_
       refine aW (ow_sliceC (vs := [_, _, _, _, _, _]) (ty := 82) rfl rfl (by rfl) rfl rfl (fun _ => by kernel_rfl)) (fun b78 hb78 => ?_)
       refine JL_asOwn (b := b78) (kk := 2) (m := 3) (by repeat constructor) rfl (by omega) ?_
       refine aS (oS (fun w hw => refdistinct [(⟨⟨A30, (srt l).length, c30, srt l⟩, false⟩ : Oc), (⟨⟨A34, (srt m).length, c34, srt m⟩, false⟩ : Oc), (⟨⟨A46, (srt (woL xteam xnn m)).length, c46, srt (woL xteam xnn m)⟩, false⟩ : Oc)] (.slice (some ⟨b78, 0, none⟩) 3 3) w (own_arr (A := some ⟨b78, 0, none⟩) (c := 3) (ty := 82) (L := [(⟨⟨A30, (srt l).length, c30, srt l⟩, false⟩ : Oc), (⟨⟨A34, (srt m).length, c34, srt m⟩, false⟩ : Oc), (⟨⟨A46, (srt (woL xteam xnn m)).length, c46, srt (woL xteam xnn m)⟩, false⟩ : Oc)]) EO hw (by repeat constructor) (Nat.le_of_ble_eq_true rfl)) (fun p hp => by
         simp only [List.mem_cons, List.not_mem_nil, or_false] at hp
         rcases hp with rfl | rfl | rfl
         ·exact own_arr (A := A30) (c := c30) ET hw (by repeat constructor) (by rw [srt_len]; omega)
         ·exact own_arr (A := A34) (c := c34) ET hw (by repeat constructor) (by rw [srt_len]; omega)
         ·exact own_arr (A := A46) (c := c46) ET hw (by repeat constructor) (by rw [srt_len]; omega)) (Nat.le_of_ble_eq_true rfl))) (fun A79 c79 => ?_)
       refine s6 ?_
       refine kJ [(8, _), (14, _)] ?_
       refine s7 ?_
       refine JR_two rfl (rr_agg (cs := [_, _, _]) rfl Agg.h (Siz.h (k := 3)) (by repeat constructor) (by rfl)) (rr_tmp rfl) ?_
       have hos : ddP (List.map oP [(⟨⟨A30, (srt l).length, c30, srt l⟩, false⟩ : Oc), (⟨⟨A34, (srt m).length, c34, srt m⟩, false⟩ : Oc), (⟨⟨A46, (srt (woL xteam xnn m)).length, c46, srt (woL xteam xnn m)⟩, false⟩ : Oc)]) = outF l m (⟨xteam, xnn, xlate, xshort, xhow⟩ : Th) r := by unfold outF; rw [if_neg h60, if_neg h65, if_pos h70]; rfl
       have hch : choF (⟨xteam, xnn, xlate, xshort, xhow⟩ : Th) r = 1 - xteam := by unfold choF; rw [if_pos h70]
       have hn : ∀ p ∈ [(⟨⟨A30, (srt l).length, c30, srt l⟩, false⟩ : Oc), (⟨⟨A34, (srt m).length, c34, srt m⟩, false⟩ : Oc), (⟨⟨A46, (srt (woL xteam xnn m)).length, c46, srt (woL xteam xnn m)⟩, false⟩ : Oc)], p.d.n = p.d.l.length ∧ p.d.l.length ≤ 16 := fun p hp => by
        simp only [List.mem_cons, List.not_mem_nil, or_false] at hp
        rcases hp with rfl | rfl | rfl <;> exact ⟨rfl, by dsimp only; rw [srt_len]; omega⟩
       intro w' hw
       have e : judE (⟨kf, kt, ks, ke, kp⟩ : Cd) n l m (⟨xteam, xnn, xlate, xshort, xhow⟩ : Th) = 0 := by unfold judE; rw [if_pos ⟨h16, h21⟩, if_pos h26]
       unfold RetRJ
       rw [e, if_pos rfl, ← hr]
       have hlen := ddO_len [(⟨⟨A30, (srt l).length, c30, srt l⟩, false⟩ : Oc), (⟨⟨A34, (srt m).length, c34, srt m⟩, false⟩ : Oc), (⟨⟨A46, (srt (woL xteam xnn m)).length, c46, srt (woL xteam xnn m)⟩, false⟩ : Oc)]
       have h2 := ref_out (L0 := [(⟨⟨A30, (srt l).length, c30, srt l⟩, false⟩ : Oc), (⟨⟨A34, (srt m).length, c34, srt m⟩, false⟩ : Oc), (⟨⟨A46, (srt (woL xteam xnn m)).length, c46, srt (woL xteam xnn m)⟩, false⟩ : Oc)]) (L := ddO [(⟨⟨A30, (srt l).length, c30, srt l⟩, false⟩ : Oc), (⟨⟨A34, (srt m).length, c34, srt m⟩, false⟩ : Oc), (⟨⟨A46, (srt (woL xteam xnn m)).length, c46, srt (woL xteam xnn m)⟩, false⟩ : Oc)]) (A := A79) (c := c79) hw (by repeat constructor) (ddO_sub _)
       exact ⟨⟨A79, c79, ddO [(⟨⟨A30, (srt l).length, c30, srt l⟩, false⟩ : Oc), (⟨⟨A34, (srt m).length, c34, srt m⟩, false⟩ : Oc), (⟨⟨A46, (srt (woL xteam xnn m)).length, c46, srt (woL xteam xnn m)⟩, false⟩ : Oc)]⟩, ⟨by dsimp only; rw [ddO_map]; exact hos, fun p hp => hn p ((ddO_sub _).subset hp)⟩, by rw [hch]; rfl, h2⟩
      ·refine s7 ?_
       refine JL_dec (fun h82 => ?_) (fun h82 => ?_)
       ·refine s5 ?_
        refine kJ [(7, _), (8, _), (11, _), (12, _), (14, _)] ?_
        refine s7 ?_
        refine kJ [(8, _), (11, _), (12, _), (14, _)] ?_
        refine s3 ?_
        refine aW (ow_sliceC (vs := [_, _, _, _]) (ty := 82) rfl rfl (by rfl) rfl rfl (fun _ => by kernel_rfl)) (fun b88 hb88 => ?_)
        refine JL_asOwn (b := b88) (kk := 2) (m := 2) (by repeat constructor) rfl (by omega) ?_
        refine aS (oS (fun w hw => refdistinct [(⟨⟨A34, (srt m).length, c34, srt m⟩, false⟩ : Oc), (⟨⟨A30, (srt l).length, c30, srt l⟩, true⟩ : Oc)] (.slice (some ⟨b88, 0, none⟩) 2 2) w (own_arr (A := some ⟨b88, 0, none⟩) (c := 2) (ty := 82) (L := [(⟨⟨A34, (srt m).length, c34, srt m⟩, false⟩ : Oc), (⟨⟨A30, (srt l).length, c30, srt l⟩, true⟩ : Oc)]) EO hw (by repeat constructor) (Nat.le_of_ble_eq_true rfl)) (fun p hp => by
          simp only [List.mem_cons, List.not_mem_nil, or_false] at hp
          rcases hp with rfl | rfl
          ·exact own_arr (A := A34) (c := c34) ET hw (by repeat constructor) (by rw [srt_len]; omega)
          ·exact own_arr (A := A30) (c := c30) ET hw (by repeat constructor) (by rw [srt_len]; omega)) (Nat.le_of_ble_eq_true rfl))) (fun A89 c89 => ?_)
        refine s6 ?_
        refine kJ [(8, _), (14, _)] ?_
        refine s7 ?_
        refine JR_two rfl (rr_agg (cs := [_, _, _]) rfl Agg.h (Siz.h (k := 3)) (by repeat constructor) (by rfl)) (rr_tmp rfl) ?_
        have hos : ddP (List.map oP [(⟨⟨A34, (srt m).length, c34, srt m⟩, false⟩ : Oc), (⟨⟨A30, (srt l).length, c30, srt l⟩, true⟩ : Oc)]) = outF l m (⟨xteam, xnn, xlate, xshort, xhow⟩ : Th) r := by unfold outF; rw [if_neg h60, if_neg h65, if_neg h70, if_pos h82]; rfl
        have hch : choF (⟨xteam, xnn, xlate, xshort, xhow⟩ : Th) r = xteam := by unfold choF; rw [if_neg h70, if_pos h82]
        have hn : ∀ p ∈ [(⟨⟨A34, (srt m).length, c34, srt m⟩, false⟩ : Oc), (⟨⟨A30, (srt l).length, c30, srt l⟩, true⟩ : Oc)], p.d.n = p.d.l.length ∧ p.d.l.length ≤ 16 := fun p hp => by
         simp only [List.mem_cons, List.not_mem_nil, or_false] at hp
         rcases hp with rfl | rfl <;> exact ⟨rfl, by dsimp only; rw [srt_len]; omega⟩
        intro w' hw
        have e : judE (⟨kf, kt, ks, ke, kp⟩ : Cd) n l m (⟨xteam, xnn, xlate, xshort, xhow⟩ : Th) = 0 := by unfold judE; rw [if_pos ⟨h16, h21⟩, if_pos h26]
        unfold RetRJ
        rw [e, if_pos rfl, ← hr]
        have hlen := ddO_len [(⟨⟨A34, (srt m).length, c34, srt m⟩, false⟩ : Oc), (⟨⟨A30, (srt l).length, c30, srt l⟩, true⟩ : Oc)]
        have h2 := ref_out (L0 := [(⟨⟨A34, (srt m).length, c34, srt m⟩, false⟩ : Oc), (⟨⟨A30, (srt l).length, c30, srt l⟩, true⟩ : Oc)]) (L := ddO [(⟨⟨A34, (srt m).length, c34, srt m⟩, false⟩ : Oc), (⟨⟨A30, (srt l).length, c30, srt l⟩, true⟩ : Oc)]) (A := A89) (c := c89) hw (by repeat constructor) (ddO_sub _)
        exact ⟨⟨A89, c89, ddO [(⟨⟨A34, (srt m).length, c34, srt m⟩, false⟩ : Oc), (⟨⟨A30, (srt l).length, c30, srt l⟩, true⟩ : Oc)]⟩, ⟨by dsimp only; rw [ddO_map]; exact hos, fun p hp => hn p ((ddO_sub _).subset hp)⟩, by rw [hch]; rfl, h2⟩
       ·refine s5 ?_
        refine kJ [(7, _), (8, _), (10, _), (11, _), (14, _), (55, _)] ?_
        refine s2 ?_
        refine JL_dec (fun h92 => ?_) (fun h92 => ?_)
        ·refine s13 ?_
         refine kJ [(8, _), (10, _), (11, _), (14, _)] ?_
         refine s3 ?_
         refine aW (ow_sliceC (vs := [_, _, _, _]) (ty := 82) rfl rfl (by rfl) rfl rfl (fun _ => by kernel_rfl)) (fun b99 hb99 => ?_)
         refine JL_asOwn (b := b99) (kk := 2) (m := 2) (by repeat constructor) rfl (by omega) ?_
         refine aS (oS (fun w hw => refdistinct [(⟨⟨A34, (srt m).length, c34, srt m⟩, false⟩ : Oc), (⟨⟨A30, (srt l).length, c30, srt l⟩, false⟩ : Oc)] (.slice (some ⟨b99, 0, none⟩) 2 2) w (own_arr (A := some ⟨b99, 0, none⟩) (c := 2) (ty := 82) (L := [(⟨⟨A34, (srt m).length, c34, srt m⟩, false⟩ : Oc), (⟨⟨A30, (srt l).length, c30, srt l⟩, false⟩ : Oc)]) EO hw (by repeat constructor) (Nat.le_of_ble_eq_true rfl)) (fun p hp => by
           simp only [List.mem_cons, List.not_mem_nil, or_false] at hp
           rcases hp with rfl | rfl
           ·exact own_arr (A := A34) (c := c34) ET hw (by repeat constructor) (by rw [srt_len]; omega)
           ·exact own_arr (A := A30) (c := c30) ET hw (by repeat constructor) (by rw [srt_len]; omega)) (Nat.le_of_ble_eq_true rfl))) (fun A100 c100 => ?_)
         refine s6 ?_
         refine kJ [(8, _), (14, _)] ?_
         refine s7 ?_
         refine JR_two rfl (rr_agg (cs := [_, _, _]) rfl Agg.h (Siz.h (k := 3)) (by repeat constructor) (by rfl)) (rr_tmp rfl) ?_
         have hos : ddP (List.map oP [(⟨⟨A34, (srt m).length, c34, srt m⟩, false⟩ : Oc), (⟨⟨A30, (srt l).length, c30, srt l⟩, false⟩ : Oc)]) = outF l m (⟨xteam, xnn, xlate, xshort, xhow⟩ : Th) r := by unfold outF; rw [if_neg h60, if_neg h65, if_neg h70, if_neg h82, if_pos h92]; rfl
         have hch : choF (⟨xteam, xnn, xlate, xshort, xhow⟩ : Th) r = 1 - xteam := by unfold choF; rw [if_neg h70, if_neg h82, if_pos h92]
         have hn : ∀ p ∈ [(⟨⟨A34, (srt m).length, c34, srt m⟩, false⟩ : Oc), (⟨⟨A30, (srt l).length, c30, srt l⟩, false⟩ : Oc)], p.d.n = p.d.l.length ∧ p.d.l.length ≤ 16 := fun p hp => by
          simp only [List.mem_cons, List.not_mem_nil, or_false] at hp
          rcases hp with rfl | rfl <;> exact ⟨rfl, by dsimp only; rw [srt_len]; omega⟩
         intro w' hw
         have e : judE (⟨kf, kt, ks, ke, kp⟩ : Cd) n l m (⟨xteam, xnn, xlate, xshort, xhow⟩ : Th) = 0 := by unfold judE; rw [if_pos ⟨h16, h21⟩, if_pos h26]
         unfold RetRJ
         rw [e, if_pos rfl, ← hr]
         have hlen := ddO_len [(⟨⟨A34, (srt m).length, c34, srt m⟩, false⟩ : Oc), (⟨⟨A30, (srt l).length, c30, srt l⟩, false⟩ : Oc)]
         have h2 := ref_out (L0 := [(⟨⟨A34, (srt m).length, c34, srt m⟩, false⟩ : Oc), (⟨⟨A30, (srt l).length, c30, srt l⟩, false⟩ : Oc)]) (L := ddO [(⟨⟨A34, (srt m).length, c34, srt m⟩, false⟩ : Oc), (⟨⟨A30, (srt l).length, c30, srt l⟩, false⟩ : Oc)]) (A := A100) (c := c100) hw (by repeat constructor) (ddO_sub _)
         exact ⟨⟨A100, c100, ddO [(⟨⟨A34, (srt m).length, c34, srt m⟩, false⟩ : Oc), (⟨⟨A30, (srt l).length, c30, srt l⟩, false⟩ : Oc)]⟩, ⟨by dsimp only; rw [ddO_map]; exact hos, fun p hp => hn p ((ddO_sub _).subset hp)⟩, by rw [hch]; rfl, h2⟩
        ·refine s4 ?_
         refine kJ [(8, _), (10, _), (14, _)] ?_
         refine s2 ?_
         refine aW (ow_sliceC (vs := [_, _]) (ty := 82) rfl rfl (by rfl) rfl rfl (fun _ => by kernel_rfl)) (fun b57 hb57 => ?_)
         refine JL_asOwn (b := b57) (kk := 2) (m := 1) (by repeat constructor) rfl (by omega) ?_
         refine s6 ?_
         refine kJ [(8, _), (14, _)] ?_
         refine s7 ?_
         refine JR_two rfl (rr_agg (cs := [_, _, _]) rfl Agg.h (Siz.h (k := 3)) (by repeat constructor) (by rfl)) (rr_tmp rfl) ?_
         have hos : ddP (List.map oP [(⟨⟨A30, (srt l).length, c30, srt l⟩, false⟩ : Oc)]) = outF l m (⟨xteam, xnn, xlate, xshort, xhow⟩ : Th) r := by unfold outF; rw [if_neg h60, if_neg h65, if_neg h70, if_neg h82, if_neg h92]; rfl
         have hch : choF (⟨xteam, xnn, xlate, xshort, xhow⟩ : Th) r = -1 := by unfold choF; rw [if_neg h70, if_neg h82, if_neg h92]
         have hn : ∀ p ∈ [(⟨⟨A30, (srt l).length, c30, srt l⟩, false⟩ : Oc)], p.d.n = p.d.l.length ∧ p.d.l.length ≤ 16 := fun p hp => by
          simp only [List.mem_cons, List.not_mem_nil, or_false] at hp
          rcases hp with rfl <;> exact ⟨rfl, by dsimp only; rw [srt_len]; omega⟩
         intro w' hw
         have e : judE (⟨kf, kt, ks, ke, kp⟩ : Cd) n l m (⟨xteam, xnn, xlate, xshort, xhow⟩ : Th) = 0 := by unfold judE; rw [if_pos ⟨h16, h21⟩, if_pos h26]
         unfold RetRJ
         rw [e, if_pos rfl, ← hr]
         have hlen := ddO_len [(⟨⟨A30, (srt l).length, c30, srt l⟩, false⟩ : Oc)]
         have h2 := ref_out (L0 := [(⟨⟨A30, (srt l).length, c30, srt l⟩, false⟩ : Oc)]) (L := [(⟨⟨A30, (srt l).length, c30, srt l⟩, false⟩ : Oc)]) (A := (some ⟨b57, 0, none⟩)) (c := 1) hw (by repeat constructor) (List.Sublist.refl _)
         exact ⟨⟨(some ⟨b57, 0, none⟩), 1, [(⟨⟨A30, (srt l).length, c30, srt l⟩, false⟩ : Oc)]⟩, ⟨hos, hn⟩, by rw [hch]; rfl, h2⟩
   ·refine s5 ?_
    refine kJ [(8, _)] ?_
    refine s1 ?_
    refine aP (rp_buildC (fun us => [.int .i64 0, .int .i64 0, .slice none 0 0]) rfl rfl (fun w => by kernel_rfl)) ?_
    refine s6 ?_
    refine JR_two rfl (rr_agg (cs := [_, _, _]) rfl Agg.h (Siz.h (k := 3)) (by repeat constructor) (by rfl)) (rr_tmp rfl) ?_
    intro w' hw
    have e : judE (⟨kf, kt, ks, ke, kp⟩ : Cd) n l m (⟨xteam, xnn, xlate, xshort, xhow⟩ : Th) = 4 := by unfold judE; rw [if_pos ⟨h16, h21⟩, if_neg h26]
    unfold RetRJ
    rw [e, if_neg (by decide)]
    exact ⟨rfl, hw.bel⟩
  ·refine s6 ?_
   refine kJ [(8, _)] ?_
   refine s1 ?_
   refine aP (rp_buildC (fun us => [.int .i64 0, .int .i64 0, .slice none 0 0]) rfl rfl (fun w => by kernel_rfl)) ?_
   refine s6 ?_
   refine JR_two rfl (rr_agg (cs := [_, _, _]) rfl Agg.h (Siz.h (k := 3)) (by repeat constructor) (by rfl)) (rr_tmp rfl) ?_
   intro w' hw
   have e : judE (⟨kf, kt, ks, ke, kp⟩ : Cd) n l m (⟨xteam, xnn, xlate, xshort, xhow⟩ : Th) = 2 := by unfold judE; rw [if_neg (fun h => by rw [h.2] at h21; cases h21)]
   unfold RetRJ
   rw [e, if_neg (by decide)]
   exact ⟨rfl, hw.bel⟩
 ·refine s11 ?_
  refine kJ [(8, _)] ?_
  refine s1 ?_
  refine aP (rp_buildC (fun us => [.int .i64 0, .int .i64 0, .slice none 0 0]) rfl rfl (fun w => by kernel_rfl)) ?_
  refine s6 ?_
  refine JR_two rfl (rr_agg (cs := [_, _, _]) rfl Agg.h (Siz.h (k := 3)) (by repeat constructor) (by rfl)) (rr_tmp rfl) ?_
  intro w' hw
  have e : judE (⟨kf, kt, ks, ke, kp⟩ : Cd) n l m (⟨xteam, xnn, xlate, xshort, xhow⟩ : Th) = 2 := by unfold judE; rw [if_neg (fun h => by rw [h.1] at h16; cases h16)]
  unfold RetRJ
  rw [e, if_neg (by decide)]
  exact ⟨rfl, hw.bel⟩
end Go.Proofs.YtomcpgdpjpjioaaGreat
/- Layer 7: Throw, Choose (document). -/
namespace Go.Proofs.YtomcpgdpjpjioaaGreat
open Go Go.RowKit Go.Proofs
attribute [local irreducible] J JQ JL JA JD

set_option maxRecDepth 100000 in
set_option maxHeartbeats 4000000 in
theorem refChoose_no (E : En) (e : RfM) (i : Int) (w : World) (hP : RfP E e) (hW : RfW w e) (hok : EnOk E) (hq : chsE E i ≠ 0) : Calls Tryz.prog 19 #[Rfv e, .int .i64 i] w (Back (.tuple #[Rfv e, .int .i64 (chsE E i)]) w) := by
 obtain ⟨⟨kf, kt, ks, ke, kp⟩, fr, l, A, k, tn, pn, r, ch, ⟨tA, tc, tL⟩⟩ := e
 obtain ⟨Ec, Efr, El, Etn, Ep⟩ := E
 have hP0 := hP
 obtain ⟨i1, i2, i3, i4, i5, i6, i7⟩ := hP
 dsimp only at i1 i2 i3 i4 i5 i6 i7
 subst i1 i2 i3 i4
 obtain ⟨hrow, hout, hoc⟩ := hW
 dsimp only at hrow hout hoc
 have hl16 := hok.l
 have htn := hok.tn
 have he := hok.e
 have hfr := hok.fr
 dsimp only at hl16 htn he hfr
 refine J_enter (fun _ => False) (vs := [.agg #[.int .i64 kf, .int .i64 kt, .int .i64 ks, .int .i64 ke, .bool kp, .int .i64 fr, .slice A l.length k, .int .i64 tn, .bool pn,   .int .i64 r, .int .i64 ch, .slice tA tL.length tc], .int .i64 i]) (k := 25) (l := [(0, .agg #[.int .i64 kf, .int .i64 kt, .int .i64 ks, .int .i64 ke, .bool kp, .int .i64 fr, .slice A l.length k, .int .i64 tn, .bool pn,   .int .i64 r, .int .i64 ch, .slice tA tL.length tc]), (1, .int .i64 i)]) Tryz.func19 rfl rfl Tryz.ntmps19 rfl rfl (Wd.start _) ?_
 refine s2 ?_
 refine aW (oX [_, _, _, _, _, _, _, _, _, _, _, _]) (fun b2 hb2 => ?_)
 refine aW oA (fun b4 hb4 => ?_)
 refine s8 ?_
 refine JL_bool (fun h7 => ?_) (fun h7 => ?_)
 ·refine s8 ?_
  obtain ⟨q, rfl⟩ : ∃ q, Ep = some q := by cases Ep with
   | none => rw [i5] at h7; cases h7
   | some q => exact ⟨q, rfl⟩
  have hlen := (hok.p q rfl).2.1
  rw [← (i6 q rfl).2.2, List.length_map] at hlen
  have hni : ¬ (0 ≤ i ∧ i ≤ ((tL.length : Nat) : Int) - 1) := fun h => hq (by unfold chsE; dsimp only; rw [← (i6 q rfl).2.2, List.length_map, if_pos h])
  refine kJ [(1, _), (2, _), (4, _)] ?_
  refine s7 ?_
  refine aCB (fun w hw => rin _ _ _ w) ?_
  refine aDecF ?_ hni
  refine s5 ?_
  refine kJ [(2, _), (4, _)] ?_
  refine s1 ?_
  refine aV (vAgg [_, _, _, _, _, _, _, _, _, _, _, _] rfl rfl rfl (by repeat constructor) rfl) ?_
  refine aW0 (wStore (cs := [_, _, _, _, _, _, _, _, _, _, _, _]) rfl rfl rfl rfl rfl rfl rfl (by repeat constructor) rfl rfl) ?_
  refine s5 ?_
  refine JR_two rfl (rr_agg (cs := [_, _, _, _, _, _, _, _, _, _, _, _]) rfl Agg.h (Siz.h (k := 12)) (by repeat constructor) (by rfl)) (rr_tmp rfl) ?_
  intro w' hw
  have e : chsE (⟨⟨kf, kt, ks, ke, kp⟩, fr, l, tn, some q⟩ : En) i = 7 := by unfold chsE; dsimp only; rw [← (i6 q rfl).2.2, List.length_map, if_neg hni]
  exact ⟨by rw [e], hw.bel⟩
 ·refine s5 ?_
  refine kJ [(2, _), (4, _)] ?_
  refine s1 ?_
  refine aV (vAgg [_, _, _, _, _, _, _, _, _, _, _, _] rfl rfl rfl (by repeat constructor) rfl) ?_
  refine aW0 (wStore (cs := [_, _, _, _, _, _, _, _, _, _, _, _]) rfl rfl rfl rfl rfl rfl rfl (by repeat constructor) rfl rfl) ?_
  refine s5 ?_
  refine JR_two rfl (rr_agg (cs := [_, _, _, _, _, _, _, _, _, _, _, _]) rfl Agg.h (Siz.h (k := 12)) (by repeat constructor) (by rfl)) (rr_tmp rfl) ?_
  intro w' hw
  have hE : Ep = none := by cases Ep with
   | none => rfl
   | some q => rw [i5] at h7; cases h7
  subst hE
  exact ⟨rfl, hw.bel⟩
set_option maxRecDepth 100000 in
set_option maxHeartbeats 4000000 in
theorem refChoose_yes (E : En) (e : RfM) (i : Int) (w : World) (hP : RfP E e) (hW : RfW w e) (hok : EnOk E) (hq : chsE E i = 0) : Calls Tryz.prog 19 #[Rfv e, .int .i64 i] w (fun en w2 => ∃ o : Oc, e.t.L[i.toNat]? = some o ∧ Back (.tuple #[Rfv (tookR e o), .int .i64 0]) w en w2) := by
 obtain ⟨⟨kf, kt, ks, ke, kp⟩, fr, l, A, k, tn, pn, r, ch, ⟨tA, tc, tL⟩⟩ := e
 obtain ⟨Ec, Efr, El, Etn, Ep⟩ := E
 have hP0 := hP
 obtain ⟨i1, i2, i3, i4, i5, i6, i7⟩ := hP
 dsimp only at i1 i2 i3 i4 i5 i6 i7
 subst i1 i2 i3 i4
 obtain ⟨hrow, hout, hoc⟩ := hW
 dsimp only at hrow hout hoc
 have hl16 := hok.l
 have htn := hok.tn
 have he := hok.e
 have hfr := hok.fr
 dsimp only at hl16 htn he hfr
 obtain ⟨q, rfl⟩ : ∃ q, Ep = some q := by cases Ep with
  | none => cases hq
  | some q => exact ⟨q, rfl⟩
 have hlen := (hok.p q rfl).2.1
 have htn2 := (hok.p q rfl).1
 rw [← (i6 q rfl).2.2, List.length_map] at hlen
 obtain rfl : pn = true := i5
 have hin : 0 ≤ i ∧ i ≤ ((tL.length : Nat) : Int) - 1 := by
  unfold chsE at hq
  dsimp only at hq
  rw [← (i6 q rfl).2.2, List.length_map] at hq
  split at hq
  ·assumption
  ·cases hq
 obtain ⟨j, rfl⟩ : ∃ j : Nat, i = j := ⟨i.toNat, by omega⟩
 obtain ⟨tA', tc', e2, -, ⟨htl, -⟩, hA⟩ := hout
 obtain ⟨rfl, -, rfl⟩ : tA = tA' ∧ True ∧ tc = tc' := by injection e2 with e1 _ e3; exact ⟨e1, trivial, e3⟩
 have hjt : j < tL.length := by omega
 obtain ⟨bkx, qx, rfl, hh⟩ := hA (by intro e; rw [e] at hjt; simp at hjt)
 obtain ⟨⟨⟨xA, xn, xk, xl⟩, xg⟩, hx⟩ : ∃ y, tL[j]'hjt = y := ⟨_, rfl⟩
 obtain ⟨hxn, hxl⟩ := i7 (⟨⟨xA, xn, xk, xl⟩, xg⟩ : Oc) (by rw [← hx]; exact List.getElem_mem _)
 dsimp only at hxn hxl
 subst hxn
 refine J_enter (fun _ => False) (vs := [.agg #[.int .i64 kf, .int .i64 kt, .int .i64 ks, .int .i64 ke, .bool kp, .int .i64 fr, .slice A l.length k, .int .i64 tn, .bool true,   .int .i64 r, .int .i64 ch, .slice (some ⟨bkx, qx, none⟩) tL.length tc], .int .i64 (j : Nat)]) (k := 25) (l := [(0, .agg #[.int .i64 kf, .int .i64 kt, .int .i64 ks, .int .i64 ke, .bool kp, .int .i64 fr, .slice A l.length k, .int .i64 tn, .bool true,   .int .i64 r, .int .i64 ch, .slice (some ⟨bkx, qx, none⟩) tL.length tc]), (1, .int .i64 (j : Nat))]) Tryz.func19 rfl rfl Tryz.ntmps19 rfl rfl (Wd.start _) ?_
 refine s2 ?_
 refine aW (oX [_, _, _, _, _, _, _, _, _, _, _, _]) (fun b2 hb2 => ?_)
 refine aW oA (fun b4 hb4 => ?_)
 refine s8 ?_
 refine aBoolT ?_ rfl
 refine s8 ?_
 refine kJ [(1, _), (2, _), (4, _)] ?_
 refine s7 ?_
 refine aCB (fun w hw => rin _ _ _ w) ?_
 refine aDecT ?_ (by omega)
 refine s7 ?_
 refine kJ [(1, _), (2, _), (4, _)] ?_
 refine xD [0, 1, 2, 3, 4, 5, 6, 7, 8, 9] [0, 3, 6] ?_
 refine dL rfl (vAgg [_, _, _, _, _, _, _, _, _, _, _, _] rfl rfl rfl (by repeat constructor) rfl) ?_
 refine s4 ?_
 refine dP rfl (pIdxI (j) rfl rfl rfl) ?_
 refine dL rfl (vHoldA (cs := [.slice xA xl.length xk, .bool xg]) EO rfl rfl (fun h => h) hh hjt (by rw [hx]; rfl)) ?_
 refine dCB rfl (fun w hw => reftaken (⟨⟨kf, kt, ks, ke, kp⟩, fr, l, A, k, tn, true, r, ch, ⟨some ⟨bkx, qx, none⟩, tc, tL⟩⟩ : RfM) xA xl xk xg w (by dsimp only; omega)) ?_
 refine dW0 rfl (wStore (cs := [_, _, _, _, _, _, _, _, _, _, _, _]) rfl rfl rfl rfl rfl rfl rfl (by repeat constructor) rfl rfl) ?_
 refine s4 ?_
 refine JR_two rfl (rr_agg (cs := [_, _, _, _, _, _, _, _, _, _, _, _]) rfl Agg.h (Siz.h (k := 12)) (by repeat constructor) (by rfl)) (rr_tmp rfl) ?_
 intro w' hw
 exact ⟨⟨⟨xA, xl.length, xk, xl⟩, xg⟩, by rw [Int.toNat_natCast, List.getElem?_eq_getElem hjt, hx], rfl, hw.bel⟩
set_option maxRecDepth 100000 in
set_option maxHeartbeats 4000000 in
theorem refThrow_no (E : En) (e : RfM) (m : List St) (x : Th) (A2 : Option Addr) (cap2 : Nat) (w : World) (hP : RfP E e) (hW : RfW w e) (hok : EnOk E) (hrow2 : Arr 4 eT w (.slice A2 m.length cap2) m) (hq : thrE E m x ≠ 0) : Calls Tryz.prog 20 #[Rfv e, Thv x A2 m.length cap2] w (Back (.tuple #[Rfv e, .agg #[.int .i64 0, .int .i64 0, .slice none 0 0], .int .i64 (thrE E m x)]) w) := by
 obtain ⟨xteam, xnn, xlate, xshort, xhow⟩ := x
 have hrow20 := hrow2
 obtain ⟨⟨kf, kt, ks, ke, kp⟩, fr, l, A, k, tn, pn, r, ch, ⟨tA, tc, tL⟩⟩ := e
 obtain ⟨Ec, Efr, El, Etn, Ep⟩ := E
 have hP0 := hP
 obtain ⟨i1, i2, i3, i4, i5, i6, i7⟩ := hP
 dsimp only at i1 i2 i3 i4 i5 i6 i7
 subst i1 i2 i3 i4
 obtain ⟨hrow, hout, hoc⟩ := hW
 dsimp only at hrow hout hoc
 have hl16 := hok.l
 have htn := hok.tn
 have he := hok.e
 have hfr := hok.fr
 dsimp only at hl16 htn he hfr
 dsimp only [Thv]
 refine J_enter (fun _ => False) (vs := [.agg #[.int .i64 kf, .int .i64 kt, .int .i64 ks, .int .i64 ke, .bool kp, .int .i64 fr, .slice A l.length k, .int .i64 tn, .bool pn,   .int .i64 r, .int .i64 ch, .slice tA tL.length tc], .agg #[.int .i64 xteam, .int .i64 xnn, .bool xlate, .bool xshort, .int .i64 xhow, .slice A2 m.length cap2]]) (k := 67) (l := [(0, .agg #[.int .i64 kf, .int .i64 kt, .int .i64 ks, .int .i64 ke, .bool kp, .int .i64 fr, .slice A l.length k, .int .i64 tn, .bool pn,   .int .i64 r, .int .i64 ch, .slice tA tL.length tc]), (1, .agg #[.int .i64 xteam, .int .i64 xnn, .bool xlate, .bool xshort, .int .i64 xhow, .slice A2 m.length cap2])]) Tryz.func20 rfl rfl Tryz.ntmps20 rfl rfl (Wd.start _) ?_
 refine s2 ?_
 refine aW (oX [_, _, _, _, _, _, _, _, _, _, _, _]) (fun b2 hb2 => ?_)
 refine aW (oX [_, _, _, _, _, _]) (fun b3 hb3 => ?_)
 refine aW oA (fun b4 hb4 => ?_)
 refine aW oA (fun b5 hb5 => ?_)
 refine s5 ?_
 refine aV (vAgg [_, _, _, _, _, _, _, _, _, _, _, _] rfl rfl rfl (by repeat constructor) rfl) ?_
 refine aCB (fun w hw => (refNext (⟨⟨kf, kt, ks, ke, kp⟩, fr, l, A, k, tn, pn, r, ch, ⟨tA, tc, tL⟩⟩ : RfM) w (by dsimp only; omega) (by dsimp only; omega) (by dsimp only; omega)).mono (fun _ _ hh => by rw [next_eq hP0] at hh; exact hh)) ?_
 refine s11 ?_
 refine kJ [(2, _), (3, _), (4, _), (5, _), (7, _), (8, _), (9, _)] ?_
 refine s3 ?_
 refine JL_dec (fun h19 => ?_) (fun h19 => ?_)
 ·refine s4 ?_
  refine kJ [(2, _), (4, _), (5, _), (9, _)] ?_
  refine s1 ?_
  refine aV (vAgg [_, _, _, _, _, _, _, _, _, _, _, _] rfl rfl rfl (by repeat constructor) rfl) ?_
  refine aP (rp_buildC (fun us => [.int .i64 0, .int .i64 0, .slice none 0 0]) rfl rfl (fun w => by kernel_rfl)) ?_
  refine s1 ?_
  refine aW0 (wStore (cs := [_, _, _, _, _, _, _, _, _, _, _, _]) rfl rfl rfl rfl rfl rfl rfl (by repeat constructor) rfl rfl) ?_
  refine s6 ?_
  refine JR_three rfl (rr_agg (cs := [_, _, _, _, _, _, _, _, _, _, _, _]) rfl Agg.h (Siz.h (k := 12)) (by repeat constructor) (by rfl)) (rr_agg (cs := [_, _, _]) rfl Agg.h (Siz.h (k := 3)) (by repeat constructor) (by rfl)) (rr_tmp rfl) ?_
  intro w' hw
  have e : thrE (⟨⟨kf, kt, ks, ke, kp⟩, fr, l, tn, Ep⟩ : En) m (⟨xteam, xnn, xlate, xshort, xhow⟩ : Th) = (nextF (⟨⟨kf, kt, ks, ke, kp⟩, fr, l, tn, Ep⟩ : En)).2.2 := by unfold thrE; rw [if_pos h19]
  exact ⟨by rw [e], hw.bel⟩
 ·refine s7 ?_
  rcases thr_why hq h19 with h1 | ⟨h1, h2⟩ | ⟨h1, h2, h3⟩
  ·refine s5 ?_
   refine aDecT ?_ h1
   refine s17 ?_
   refine kJ [(2, _), (4, _), (5, _)] ?_
   refine s1 ?_
   refine aV (vAgg [_, _, _, _, _, _, _, _, _, _, _, _] rfl rfl rfl (by repeat constructor) rfl) ?_
   refine aP (rp_buildC (fun us => [.int .i64 0, .int .i64 0, .slice none 0 0]) rfl rfl (fun w => by kernel_rfl)) ?_
   refine aW0 (wStore (cs := [_, _, _, _, _, _, _, _, _, _, _, _]) rfl rfl rfl rfl rfl rfl rfl (by repeat constructor) rfl rfl) ?_
   refine s6 ?_
   refine JR_three rfl (rr_agg (cs := [_, _, _, _, _, _, _, _, _, _, _, _]) rfl Agg.h (Siz.h (k := 12)) (by repeat constructor) (by rfl)) (rr_agg (cs := [_, _, _]) rfl Agg.h (Siz.h (k := 3)) (by repeat constructor) (by rfl)) (rr_tmp rfl) ?_
   intro w' hw
   exact ⟨by rw [thr_2 hq h19], hw.bel⟩
  ·refine s5 ?_
   refine aDecF ?_ (fun h => h h1)
   refine s5 ?_
   refine aDecT ?_ h2
   refine s12 ?_
   refine kJ [(2, _), (4, _), (5, _)] ?_
   refine s1 ?_
   refine aV (vAgg [_, _, _, _, _, _, _, _, _, _, _, _] rfl rfl rfl (by repeat constructor) rfl) ?_
   refine aP (rp_buildC (fun us => [.int .i64 0, .int .i64 0, .slice none 0 0]) rfl rfl (fun w => by kernel_rfl)) ?_
   refine aW0 (wStore (cs := [_, _, _, _, _, _, _, _, _, _, _, _]) rfl rfl rfl rfl rfl rfl rfl (by repeat constructor) rfl rfl) ?_
   refine s6 ?_
   refine JR_three rfl (rr_agg (cs := [_, _, _, _, _, _, _, _, _, _, _, _]) rfl Agg.h (Siz.h (k := 12)) (by repeat constructor) (by rfl)) (rr_agg (cs := [_, _, _]) rfl Agg.h (Siz.h (k := 3)) (by repeat constructor) (by rfl)) (rr_tmp rfl) ?_
   intro w' hw
   exact ⟨by rw [thr_2 hq h19], hw.bel⟩
  ·refine s5 ?_
   refine aDecF ?_ (fun h => h h1)
   refine s5 ?_
   refine aDecF ?_ (fun h => h h2)
   refine s5 ?_
   refine aCB (fun w hw => refCheckThrow l m (⟨xteam, xnn, xlate, xshort, xhow⟩ : Th) _ A2 cap2 w (hrow.up ET hw.bel) (hrow20.up ET hw.bel)) ?_
   refine aBoolF ?_ h3
   refine s6 ?_
   refine kJ [(2, _), (4, _), (5, _)] ?_
   refine s1 ?_
   refine aV (vAgg [_, _, _, _, _, _, _, _, _, _, _, _] rfl rfl rfl (by repeat constructor) rfl) ?_
   refine aP (rp_buildC (fun us => [.int .i64 0, .int .i64 0, .slice none 0 0]) rfl rfl (fun w => by kernel_rfl)) ?_
   refine aW0 (wStore (cs := [_, _, _, _, _, _, _, _, _, _, _, _]) rfl rfl rfl rfl rfl rfl rfl (by repeat constructor) rfl rfl) ?_
   refine s6 ?_
   refine JR_three rfl (rr_agg (cs := [_, _, _, _, _, _, _, _, _, _, _, _]) rfl Agg.h (Siz.h (k := 12)) (by repeat constructor) (by rfl)) (rr_agg (cs := [_, _, _]) rfl Agg.h (Siz.h (k := 3)) (by repeat constructor) (by rfl)) (rr_tmp rfl) ?_
   intro w' hw
   exact ⟨by rw [thr_2 hq h19], hw.bel⟩
end Go.Proofs.YtomcpgdpjpjioaaGreat
/- Layer 7: Throw, played (document). -/
namespace Go.Proofs.YtomcpgdpjpjioaaGreat
open Go Go.RowKit Go.Proofs
attribute [local irreducible] J JQ JL JA JD

/-- The document's end behind a throw. -/
def thrM (e : RfM) (r h : Int) (t : OcT) : RfM := if t.L.length = 1 then tookR e ((t.L.head?).getD ⟨⟨none, 0, 0, []⟩, false⟩) else { e with pn := true, r := r, h := h, t := t }
theorem thrM_one {e : RfM} {r h : Int} {A : Option Addr} {c : Nat} {o : Oc} : thrM e r h ⟨A, c, [o]⟩ = tookR e o := rfl
theorem thrM_many {e : RfM} {r h : Int} {t : OcT} (hn : t.L.length ≠ 1) : thrM e r h t = { e with pn := true, r := r, h := h, t := t } := by unfold thrM; rw [if_neg hn]
set_option maxRecDepth 100000 in
set_option maxHeartbeats 4000000 in
theorem refThrow_yes (E : En) (e : RfM) (m : List St) (x : Th) (A2 : Option Addr) (cap2 : Nat) (w : World) (hP : RfP E e) (hW : RfW w e) (hok : EnOk E) (hrow2 : Arr 4 eT w (.slice A2 m.length cap2) m) (hq : thrE E m x = 0) (hj : judE E.c E.tn E.l m x = 0) : Calls Tryz.prog 20 #[Rfv e, Thv x A2 m.length cap2] w (Ret w (OcP (outE E m x)) (fun t => .tuple #[Rfv (thrM e (rulE E m x) (choF x (rulE E m x)) t), Ruv (rulE E m x) (choF x (rulE E m x)) t, .int .i64 0]) ocI) := by
 obtain ⟨xteam, xnn, xlate, xshort, xhow⟩ := x
 have hrow20 := hrow2
 obtain ⟨⟨kf, kt, ks, ke, kp⟩, fr, l, A, k, tn, pn, r, ch, ⟨tA, tc, tL⟩⟩ := e
 obtain ⟨Ec, Efr, El, Etn, Ep⟩ := E
 have hP0 := hP
 obtain ⟨i1, i2, i3, i4, i5, i6, i7⟩ := hP
 dsimp only at i1 i2 i3 i4 i5 i6 i7
 subst i1 i2 i3 i4
 obtain ⟨hrow, hout, hoc⟩ := hW
 dsimp only at hrow hout hoc
 have hl16 := hok.l
 have htn := hok.tn
 have he := hok.e
 have hfr := hok.fr
 dsimp only at hl16 htn he hfr
 dsimp only at hj
 obtain ⟨z0, z1, z2, z3⟩ := thr_0 hq
 obtain rfl : Ep = none := (next_iff.1 z0).1
 obtain rfl : pn = false := i5
 have htn2 := (next_iff.1 z0).2
 dsimp only at htn2
 dsimp only [Thv]
 refine J_enter (fun _ => False) (vs := [.agg #[.int .i64 kf, .int .i64 kt, .int .i64 ks, .int .i64 ke, .bool kp, .int .i64 fr, .slice A l.length k, .int .i64 tn, .bool false,   .int .i64 r, .int .i64 ch, .slice tA tL.length tc], .agg #[.int .i64 xteam, .int .i64 xnn, .bool xlate, .bool xshort, .int .i64 xhow, .slice A2 m.length cap2]]) (k := 67) (l := [(0, .agg #[.int .i64 kf, .int .i64 kt, .int .i64 ks, .int .i64 ke, .bool kp, .int .i64 fr, .slice A l.length k, .int .i64 tn, .bool false,   .int .i64 r, .int .i64 ch, .slice tA tL.length tc]), (1, .agg #[.int .i64 xteam, .int .i64 xnn, .bool xlate, .bool xshort, .int .i64 xhow, .slice A2 m.length cap2])]) Tryz.func20 rfl rfl Tryz.ntmps20 rfl rfl (Wd.start _) ?_
 refine s2 ?_
 refine aW (oX [_, _, _, _, _, _, _, _, _, _, _, _]) (fun b2 hb2 => ?_)
 refine aW (oX [_, _, _, _, _, _]) (fun b3 hb3 => ?_)
 refine aW oA (fun b4 hb4 => ?_)
 refine aW oA (fun b5 hb5 => ?_)
 refine s5 ?_
 refine aV (vAgg [_, _, _, _, _, _, _, _, _, _, _, _] rfl rfl rfl (by repeat constructor) rfl) ?_
 refine aCB (fun w hw => (refNext (⟨⟨kf, kt, ks, ke, kp⟩, fr, l, A, k, tn, false, r, ch, ⟨tA, tc, tL⟩⟩ : RfM) w (by dsimp only; omega) (by dsimp only; omega) (by dsimp only; omega)).mono (fun _ _ hh => by rw [next_eq hP0] at hh; exact hh)) ?_
 refine s11 ?_
 refine kJ [(2, _), (3, _), (4, _), (5, _), (7, _), (8, _), (9, _)] ?_
 refine s3 ?_
 refine aDecF ?_ (fun h => h z0)
 refine s12 ?_
 refine aDecF ?_ (fun h => h z1)
 refine s5 ?_
 refine aDecF ?_ (fun h => h z2)
 refine s5 ?_
 refine aCB (fun w hw => refCheckThrow l m (⟨xteam, xnn, xlate, xshort, xhow⟩ : Th) _ A2 cap2 w (hrow.up ET hw.bel) (hrow20.up ET hw.bel)) ?_
 refine aBoolT ?_ z3
 refine s7 ?_
 refine xC (T := Nat × OcT) (fun q => OcP (outE (⟨⟨kf, kt, ks, ke, kp⟩, fr, l, tn, none⟩ : En) m (⟨xteam, xnn, xlate, xshort, xhow⟩ : Th)) q.2) (fun q => [(2, .pointer (some ⟨b2, 0, none⟩)), (4, .pointer (some ⟨b4, 0, none⟩)), (5, .pointer (some ⟨b5, 0, none⟩)), (10, .pointer (some ⟨q.1, 0, none⟩))]) (fun q => [cellB b2 [.int .i64 kf, .int .i64 kt, .int .i64 ks, .int .i64 ke, .bool kp, .int .i64 fr, .slice A l.length k, .int .i64 tn, .bool false, .int .i64 r, .int .i64 ch, .slice tA tL.length tc] 55, cellB b4 [.int .i64 0, .int .i64 0, .int .i64 0, .int .i64 0, .bool false, .int .i64 0, .slice none 0 0, .int .i64 0, .bool false, .int .i64 0, .int .i64 0, .slice none 0 0] 55, cellB b5 [.int .i64 0, .int .i64 0, .slice none 0 0] 47, cellB q.1 [.int .i64 (rulE (⟨⟨kf, kt, ks, ke, kp⟩, fr, l, tn, none⟩ : En) m (⟨xteam, xnn, xlate, xshort, xhow⟩ : Th)), .int .i64 (choF (⟨xteam, xnn, xlate, xshort, xhow⟩ : Th) (rulE (⟨⟨kf, kt, ks, ke, kp⟩, fr, l, tn, none⟩ : En) m (⟨xteam, xnn, xlate, xshort, xhow⟩ : Th))), .slice q.2.A q.2.L.length q.2.c] 47, ownB 82 2 q.2.A q.2.L.length q.2.c (q.2.L.flatMap eO), grpB (q.2.L.map rwB)]) ?_ ?_
 ·refine kJ [(2, _), (3, _), (4, _), (5, _)] ?_
  refine s8 ?_
  refine aW (oR (fun w hw => (refJudge ⟨kf, kt, ks, ke, kp⟩ tn l m (⟨xteam, xnn, xlate, xshort, xhow⟩ : Th) _ A2 cap2 w (hrow.up ET hw.bel) (hrow20.up ET hw.bel)).mono (fun _ _ hh => by unfold RetRJ at hh; rw [if_pos hj] at hh; exact hh))) (fun t50 ht50 => ?_)
  dsimp only [ocI, List.cons_append, List.nil_append]
  refine s3 ?_
  refine aW oA (fun b10 hb10 => ?_)
  refine s3 ?_
  exact xE (b10, t50) ht50
 ·rintro ⟨b10, ⟨jA, jc, jL⟩⟩ ht50
  dsimp only at ht50 ⊢
  refine s7 ?_
  refine JL_dec (fun h56 => ?_) (fun h56 => ?_)
  ·refine s4 ?_
   obtain ⟨o, rfl⟩ := List.length_eq_one_iff.1 (show jL.length = 1 by omega)
   obtain ⟨⟨oA, on, ok, ol⟩, og⟩ := o
   obtain ⟨hon, hol⟩ := ht50.2 _ (List.mem_singleton.2 rfl)
   dsimp only at hon hol
   subst hon
   refine J_fact (fun hw => ?_)
   obtain ⟨g, rfl⟩ := own_some hw (ty := 82) (k := 2) (m := 1) (c := jc) (A := jA) (xs := [(⟨⟨oA, ol.length, ok, ol⟩, og⟩ : Oc)].flatMap eO) (by repeat constructor) (by omega)
   clear hw
   refine kJ [(2, _), (4, _), (5, _), (10, _)] ?_
   refine xDx [0, 1, 2, 3, 4, 6, 5, 7, 8, 9] [0, 2, 4] [6] [cellB b10 [.int .i64 (rulE (⟨⟨kf, kt, ks, ke, kp⟩, fr, l, tn, none⟩ : En) m (⟨xteam, xnn, xlate, xshort, xhow⟩ : Th)), .int .i64 (choF (⟨xteam, xnn, xlate, xshort, xhow⟩ : Th) (rulE (⟨⟨kf, kt, ks, ke, kp⟩, fr, l, tn, none⟩ : En) m (⟨xteam, xnn, xlate, xshort, xhow⟩ : Th))), .slice (some ⟨g, 0, none⟩) 1 jc] 47] ?_
   refine dL rfl (vAgg [_, _, _, _, _, _, _, _, _, _, _, _] rfl rfl rfl (by repeat constructor) rfl) ?_
   refine s2 ?_
   refine dP rfl (pIdxI (0) rfl rfl rfl rfl) ?_
   refine dL rfl (vOwnA (cs := [.slice oA ol.length ok, .bool og]) EO (L := [(⟨⟨oA, ol.length, ok, ol⟩, og⟩ : Oc)]) (j := 0) rfl rfl (by repeat constructor) (Nat.le_of_ble_eq_true rfl) rfl) ?_
   refine s1 ?_
   refine dCB rfl (fun w hw => reftaken (⟨⟨kf, kt, ks, ke, kp⟩, fr, l, A, k, tn, false, r, ch, ⟨tA, tc, tL⟩⟩ : RfM) oA ol ok og w (by dsimp only; omega)) ?_
   refine dW0 rfl (wStore (cs := [_, _, _, _, _, _, _, _, _, _, _, _]) rfl rfl rfl rfl rfl rfl rfl (by repeat constructor) rfl rfl) ?_
   refine s6 ?_
   refine JR_three rfl (rr_agg (cs := [_, _, _, _, _, _, _, _, _, _, _, _]) rfl Agg.h (Siz.h (k := 12)) (by repeat constructor) (by rfl)) (rr_agg (cs := [_, _, _]) rfl Agg.h (Siz.h (k := 3)) (by repeat constructor) (by rfl)) (rr_tmp rfl) ?_
   intro w' hw
   exact ⟨⟨some ⟨g, 0, none⟩, jc, [⟨⟨oA, ol.length, ok, ol⟩, og⟩]⟩, ht50, by dsimp only; rw [thrM_one] <;> rfl, hw.pick (by repeat constructor)⟩
  ·refine s6 ?_
   refine kJ [(2, _), (4, _), (5, _), (10, _)] ?_
   refine s13 ?_
   refine xDx [0, 1, 2, 3, 4] [0] [1] [cellB b10 [.int .i64 (rulE (⟨⟨kf, kt, ks, ke, kp⟩, fr, l, tn, none⟩ : En) m (⟨xteam, xnn, xlate, xshort, xhow⟩ : Th)), .int .i64 (choF (⟨xteam, xnn, xlate, xshort, xhow⟩ : Th) (rulE (⟨⟨kf, kt, ks, ke, kp⟩, fr, l, tn, none⟩ : En) m (⟨xteam, xnn, xlate, xshort, xhow⟩ : Th))), .slice jA jL.length jc] 47] ?_
   refine dL rfl (vAgg [_, _, _, _, _, _, _, _, _, _, _, _] rfl rfl rfl (by repeat constructor) rfl) ?_
   refine s1 ?_
   refine dW0 rfl (wStore (cs := [_, _, _, _, _, _, _, _, _, _, _, _]) rfl rfl rfl rfl rfl rfl rfl (by repeat constructor) rfl rfl) ?_
   refine s5 ?_
   refine JR_three rfl (rr_agg (cs := [_, _, _, _, _, _, _, _, _, _, _, _]) rfl Agg.h (Siz.h (k := 12)) (by repeat constructor) (by rfl)) (rr_agg (cs := [_, _, _]) rfl Agg.h (Siz.h (k := 3)) (by repeat constructor) (by rfl)) (rr_tmp rfl) ?_
   intro w' hw
   exact ⟨⟨jA, jc, jL⟩, ht50, by dsimp only; rw [thrM_many (fun h => h56 (by dsimp only at h; omega))] <;> rfl, hw.pick (by repeat constructor)⟩
end Go.Proofs.YtomcpgdpjpjioaaGreat
/- Layer 7: the document's end follows the plain end. -/
namespace Go.Proofs.YtomcpgdpjpjioaaGreat
open Go Go.RowKit Go.Proofs
theorem took_P {E : En} {e : RfM} (hP : RfP E e) (o : Oc) : RfP (tookE E (oP o)) (tookR e o) := by
 obtain ⟨i1, i2, i3, i4, i5, i6, i7⟩ := hP
 exact ⟨i1, i2, rfl, by unfold tookE tookR oP; dsimp only; rw [i4], rfl, fun q hq => (by cases hq), fun p hp => (by cases hp)⟩
theorem chs_P {E : En} {e : RfM} (hP : RfP E e) {i : Int} {o : Oc} (hq : chsE E i = 0) (ho : e.t.L[i.toNat]? = some o) : RfP (chsN E i) (tookR e o) := by
 cases hp : E.p with
 | none => unfold chsE at hq; rw [hp] at hq; cases hq
 | some r =>
  have h : chsN E i = tookE E (oP o) := by
   unfold chsN
   rw [hp]
   dsimp only
   rw [← (hP.p r hp).2.2, List.getD_eq_getElem?_getD, List.getElem?_map, ho]
   rfl
  rw [h]
  exact took_P hP o
theorem thr_P {E : En} {e : RfM} (hP : RfP E e) {m : List St} {x : Th} {t : OcT} (ht : OcP (outE E m x) t) : RfP (thrN E m x) (thrM e (rulE E m x) (choF x (rulE E m x)) t) := by
 obtain ⟨A, c, L⟩ := t
 by_cases h1 : L.length = 1
 ·obtain ⟨o, rfl⟩ := List.length_eq_one_iff.1 h1
  rw [thrM_one, thr_one (q := oP o) ht.1.symm]
  exact took_P hP o
 ·rw [thrM_many (t := ⟨A, c, L⟩) h1, thr_many (by rw [← ht.1, List.length_map]; exact h1)]
  obtain ⟨i1, i2, i3, i4, i5, i6, i7⟩ := hP
  exact ⟨i1, i2, i3, i4, rfl, fun q hq => (by cases hq; exact ⟨rfl, rfl, ht.1⟩), ht.2⟩
theorem took_W {w : World} {e : RfM} (hW : RfW w e) (hn : ∀ p ∈ e.t.L, p.d.n = p.d.l.length ∧ p.d.l.length ≤ 16) {o : Oc} (ho : o ∈ e.t.L) : RfW w (tookR e o) := by
 refine ⟨?_, Arr.nil w, fun p hp => (by cases hp)⟩
 have h := hW.oc o ho
 unfold OcW Dv.v at h
 rw [(hn o ho).1] at h
 exact h
theorem thr_W {w : World} {e : RfM} (hW : RfW w e) {r h : Int} {t : OcT} (ho : ∀ A ∈ ocI t, A.holds w) (hn : ∀ p ∈ t.L, p.d.n = p.d.l.length ∧ p.d.l.length ≤ 16) (hl : t.L.length ≤ 1000) : RfW w (thrM e r h t) := by
 obtain ⟨k1, k2⟩ := ocI_w ho hn hl
 obtain ⟨A, c, L⟩ := t
 by_cases h1 : L.length = 1
 ·obtain ⟨o, rfl⟩ := List.length_eq_one_iff.1 h1
  rw [thrM_one]
  refine ⟨?_, Arr.nil w, fun p hp => (by cases hp)⟩
  have h := k2 o (List.mem_singleton.2 rfl)
  unfold OcW Dv.v at h
  rw [(hn o (List.mem_singleton.2 rfl)).1] at h
  exact h
 ·rw [thrM_many (t := ⟨A, c, L⟩) h1]
  exact ⟨hW.row, k1, k2⟩
/-- The end as it begins may be read. -/
theorem new_W {B : Bs} {H : List It} {w : World} {e : RfM} {ty : Nat} (hw : Wd B H w) (hm : ownB ty 4 e.A e.l.length e.k (e.l.flatMap eT) ∈ H) (hl : e.l.length ≤ 1000) (h0 : e.t = oc0) : RfW w e := by
 refine ⟨Arr.of_own ET (hw.ok _ hm).1 (by omega), ?_, ?_⟩
 ·rw [h0]; exact Arr.nil w
 ·rw [h0]; intro p hp; cases hp
/-- What may be thrown may be judged. -/
theorem jud_0 {c : Cd} {n : Int} {l m : List St} {x : Th} (hc : ccB c = true) (ht : thrB l m x = true) (hn : 0 ≤ n ∧ n ≤ 16) : judE c n l m x = 0 := by unfold judE; rw [if_pos ⟨hc, ht⟩, if_pos hn]
/-! ### The end keeps its bounds -/
theorem dd_memP {y : List St × Bool} : ∀ (L r : List (List St × Bool)), y ∈ L.foldl (fun r o => if r.any (fun p => decide (p = o)) = true then r else r ++ [o]) r → y ∈ r ∨ y ∈ L
 | [], r, h => .inl h
 | o :: L, r, h => by
  rw [List.foldl_cons] at h
  rcases dd_memP L _ h with h1 | h1
  ·split at h1
   ·exact .inl h1
   ·rcases List.mem_append.1 h1 with h2 | h2
    ·exact .inl h2
    ·exact .inr (by rw [List.mem_singleton.1 h2]; exact List.mem_cons_self)
  ·exact .inr (List.mem_cons_of_mem _ h1)
theorem ddP_mem {y : List St × Bool} {L : List (List St × Bool)} (h : y ∈ ddP L) : y ∈ L := by
 rcases dd_memP L [] h with h | h
 ·cases h
 ·exact h
theorem dd_lenP : ∀ (L r : List (List St × Bool)), r.length ≤ (L.foldl (fun r o => if r.any (fun p => decide (p = o)) = true then r else r ++ [o]) r).length
 | [], r => Nat.le_refl _
 | o :: L, r => by
  rw [List.foldl_cons]
  refine Nat.le_trans ?_ (dd_lenP L _)
  split
  ·exact Nat.le_refl _
  ·rw [List.length_append]; omega
theorem ddP_pos (o : List St × Bool) (L : List (List St × Bool)) : 1 ≤ (ddP (o :: L)).length := dd_lenP L [o]
theorem outF_pos (l m : List St) (x : Th) (r : Int) : 1 ≤ (outF l m x r).length := by
 unfold outF
 repeat' split
 all_goals exact ddP_pos _ _
theorem outF_mem {l m : List St} {x : Th} {r : Int} {y : List St × Bool} (h : y ∈ outF l m x r) : y.1 = srt l ∨ y.1 = srt m ∨ y.1 = srt (m.filter (fun s => !isB x.team x.n s)) := by
 unfold outF at h
 repeat' split at h
 all_goals
  have h1 := ddP_mem h
  simp only [List.mem_cons, List.not_mem_nil, or_false] at h1
  rcases h1 with h1 | h1 | h1 <;> (try subst h1) <;> simp_all
theorem outF_16 {l m : List St} {x : Th} {r : Int} {y : List St × Bool} (h : y ∈ outF l m x r) (hl : l.length ≤ 16) (hm : m.length ≤ 16) : y.1.length ≤ 16 := by
 rcases outF_mem h with e | e | e <;> rw [e, srt_len]
 ·exact hl
 ·exact hm
 ·exact Nat.le_trans (List.length_filter_le _ _) hm
theorem took_ok {E : En} (h : EnOk E) (ht : E.tn < 2 * E.c.e) {o : List St × Bool} (ho : o.1.length ≤ 16) : EnOk (tookE E o) := by
 have h1 := h.tn
 refine ⟨h.e, h.fr, ?_, ho, fun r hr => (by cases hr)⟩
 unfold tookE
 dsimp only
 split <;> omega
theorem thr_ok {E : En} {m : List St} {x : Th} (h : EnOk E) (hq : thrE E m x = 0) : EnOk (thrN E m x) := by
 obtain ⟨z0, z1, z2, z3⟩ := thr_0 hq
 obtain ⟨z4, z5⟩ := next_iff.1 z0
 have h1 := h.tn
 have hm := (chk_facts (thr_parts z3).2.1).1
 have h16 : ∀ y ∈ outE E m x, y.1.length ≤ 16 := fun y hy => outF_16 hy h.l hm
 have hp := outF_pos E.l m x (rulE E m x)
 have hl := outF_len E.l m x (rulE E m x)
 by_cases hn : (outE E m x).length = 1
 ·obtain ⟨q, hq2⟩ := List.length_eq_one_iff.1 hn
  rw [thr_one hq2]
  exact took_ok h (by omega) (h16 q (by rw [hq2]; exact List.mem_cons_self))
 ·rw [thr_many hn]
  refine ⟨h.e, h.fr, h.tn, h.l, fun r hr => ?_⟩
  cases hr
  have hn2 : (outF E.l m x (rulE E m x)).length ≠ 1 := hn
  exact ⟨by show E.tn < 2 * E.c.e; omega, ⟨by show 1 < (outF E.l m x (rulE E m x)).length; omega, hl⟩, h16⟩
theorem chs_ok {E : En} {i : Int} (h : EnOk E) (hq : chsE E i = 0) : EnOk (chsN E i) := by
 cases hp : E.p with
 | none => unfold chsE at hq; rw [hp] at hq; cases hq
 | some r =>
  have h1 := h.p r hp
  have h2 : 0 ≤ i ∧ i ≤ (r.2.2.length : Int) - 1 := by
   unfold chsE at hq
   rw [hp] at hq
   dsimp only at hq
   split at hq
   ·assumption
   ·cases hq
  have h3 : i.toNat < r.2.2.length := by omega
  have h4 : chsN E i = tookE E (r.2.2[i.toNat]'h3) := by
   unfold chsN
   rw [hp]
   dsimp only
   rw [List.getD_eq_getElem?_getD, List.getElem?_eq_getElem h3]
   rfl
  rw [h4]
  exact took_ok h h1.1 (h1.2.2 _ (List.getElem_mem _))
theorem new_ok {c : Cd} {first power : Int} (h : goodR c first power = 0) : EnOk (newE c first power) ∧ ccB c = true := by
 unfold goodR at h
 split at h
 ·rename_i h1
  have h2 := h1.1
  have h3 : 1 ≤ c.e ∧ c.e ≤ 8 := by
   unfold ccB at h2
   simp only [Bool.and_eq_true, decide_eq_true_eq] at h2
   exact h2.1.2
  have h4 : (newE c first power).l.length ≤ 16 := by
   unfold newE
   dsimp only
   split
   ·rw [srt_len]; exact Nat.le_of_ble_eq_true rfl
   ·exact Nat.zero_le _
  exact ⟨⟨h3, h1.2, ⟨Int.le_refl _, by show (0 : Int) ≤ 2 * c.e; omega⟩, h4, fun r hr => (by cases hr)⟩, h2⟩
 ·cases h
end Go.Proofs.YtomcpgdpjpjioaaGreat
/- Layer 7: alike. -/
namespace Go.Proofs.YtomcpgdpjpjioaaGreat
open Go Go.RowKit Go.Proofs
attribute [local irreducible] J JQ JL JA JD

theorem sco_eq {E : En} (h : E.tn ≤ 2 * E.c.e) : (if E.tn < 2 * E.c.e then (0, 0, 9) else cntF E.l) = scoF E := by
 unfold scoF
 by_cases h1 : E.tn = 2 * E.c.e
 ·rw [if_neg (by omega), if_pos h1]
 ·rw [if_pos (by omega), if_neg h1]
set_option maxRecDepth 100000 in
set_option maxHeartbeats 4000000 in
theorem alike_none (b : Nat) (e : EnM) (e2 : RfM) (w : World) (h : EndW w b e) (hok : EnOk e.pl) (hp0 : e.p = none) (hP : RfP e.pl e2) (hW : RfW w e2) : Calls Tryz.prog 18 #[.pointer (some ⟨b, 0, none⟩), Rfv e2] w (Back (.bool true) w) := by
 obtain ⟨⟨kf, kt, ks, ke, kp⟩, fr, l, sA, sk, tn, pd⟩ := e
 obtain rfl : pd = none := hp0
 obtain ⟨c2, fr2, l2, A, k, tn2, pn, r, ch, ⟨tA, tc, tL⟩⟩ := e2
 have hP0 := hP
 obtain ⟨i1, i2, i3, i4, i5, i6, i7⟩ := hP
 dsimp only [EnM.pl] at i1 i2 i3 i4 i5
 subst c2 fr2 l2 tn2
 obtain rfl : pn = false := i5
 obtain ⟨hrow, hout, hoc⟩ := hW
 dsimp only at hrow hout hoc
 have hl16 := hok.l
 have htn := hok.tn
 have he := hok.e
 have hfr := hok.fr
 dsimp only [EnM.pl] at hl16 htn he hfr
 have hsc : ∀ W, Below w.heap.size w W → Calls Tryz.prog 49 #[Rfv (⟨⟨kf, kt, ks, ke, kp⟩, fr, l, A, k, tn, false, r, ch, ⟨tA, tc, tL⟩⟩ : RfM)] W (Back (.tuple #[.int .i64 (scoF (EnM.pl (⟨⟨kf, kt, ks, ke, kp⟩, fr, l, sA, sk, tn, none⟩ : EnM))).1, .int .i64 (scoF (EnM.pl (⟨⟨kf, kt, ks, ke, kp⟩, fr, l, sA, sk, tn, none⟩ : EnM))).2.1, .int .i64 (scoF (EnM.pl (⟨⟨kf, kt, ks, ke, kp⟩, fr, l, sA, sk, tn, none⟩ : EnM))).2.2]) W) := fun W hb => by
  have h := refScore (⟨⟨kf, kt, ks, ke, kp⟩, fr, l, A, k, tn, false, r, ch, ⟨tA, tc, tL⟩⟩ : RfM) W (hrow.up ET hb) he
  rw [show (if ((⟨⟨kf, kt, ks, ke, kp⟩, fr, l, A, k, tn, false, r, ch, ⟨tA, tc, tL⟩⟩ : RfM)).tn < 2 * ((⟨⟨kf, kt, ks, ke, kp⟩, fr, l, A, k, tn, false, r, ch, ⟨tA, tc, tL⟩⟩ : RfM)).c.e then (0, 0, 9) else cntF ((⟨⟨kf, kt, ks, ke, kp⟩, fr, l, A, k, tn, false, r, ch, ⟨tA, tc, tL⟩⟩ : RfM)).l) = scoF (EnM.pl (⟨⟨kf, kt, ks, ke, kp⟩, fr, l, sA, sk, tn, none⟩ : EnM)) from sco_eq (E := EnM.pl (⟨⟨kf, kt, ks, ke, kp⟩, fr, l, sA, sk, tn, none⟩ : EnM)) htn.2] at h
  exact h
 refine J_enter (fun _ => False) (vs := [.pointer (some ⟨b, 0, none⟩), .agg #[.int .i64 kf, .int .i64 kt, .int .i64 ks, .int .i64 ke, .bool kp, .int .i64 fr, .slice A l.length k, .int .i64 tn, .bool false, .int .i64 r, .int .i64 ch, .slice tA tL.length tc]]) (k := 113) (l := [(0, .pointer (some ⟨b, 0, none⟩)), (1, .agg #[.int .i64 kf, .int .i64 kt, .int .i64 ks, .int .i64 ke, .bool kp, .int .i64 fr, .slice A l.length k, .int .i64 tn, .bool false, .int .i64 r, .int .i64 ch, .slice tA tL.length tc])]) Tryz.func18 rfl rfl Tryz.ntmps18 rfl rfl (Wd.start _) ?_
 refine s2 ?_
 refine aW (oX [_, _, _, _, _, _, _, _, _, _, _, _]) (fun b3 hb3 => ?_)
 refine s6 ?_
 refine aCB (fun w hw => Next_any b (⟨⟨kf, kt, ks, ke, kp⟩, fr, l, sA, sk, tn, none⟩ : EnM) w (h.up hw.bel) hok) ?_
 refine s10 ?_
 refine kJ [(0, _), (3, _), (5, _), (6, _), (7, _)] ?_
 refine s1 ?_
 refine aV (vAgg [_, _, _, _, _, _, _, _, _, _, _, _] rfl rfl rfl (by repeat constructor) rfl) ?_
 refine aCB (fun w hw => (refNext (⟨⟨kf, kt, ks, ke, kp⟩, fr, l, A, k, tn, false, r, ch, ⟨tA, tc, tL⟩⟩ : RfM) w he (by dsimp only; omega) hfr).mono (fun _ _ hh => by rw [next_eq hP0] at hh; exact hh)) ?_
 refine s10 ?_
 refine kJ [(0, _), (3, _), (5, _), (6, _), (7, _), (8, _), (9, _), (10, _)] ?_
 refine s2 ?_
 refine aCB (fun w hw => Pending_any b (⟨⟨kf, kt, ks, ke, kp⟩, fr, l, sA, sk, tn, none⟩ : EnM) w (h.up hw.bel) hok (fun m hm => by cases hm)) ?_
 refine s3 ?_
 refine aW oA (fun b11 hb11 => ?_)
 refine s5 ?_
 refine kJ [(0, _), (3, _), (5, _), (6, _), (7, _), (8, _), (9, _), (10, _), (11, _), (12, _)] ?_
 refine s2 ?_
 refine aCB (fun w hw => Score_any b (⟨⟨kf, kt, ks, ke, kp⟩, fr, l, sA, sk, tn, none⟩ : EnM) w (h.up hw.bel) hok) ?_
 refine s10 ?_
 refine kJ [(0, _), (3, _), (5, _), (6, _), (7, _), (8, _), (9, _), (10, _), (11, _), (12, _), (13, _), (14, _), (15, _)] ?_
 refine s1 ?_
 refine aV (vAgg [_, _, _, _, _, _, _, _, _, _, _, _] rfl rfl rfl (by repeat constructor) rfl) ?_
 refine aCB (fun w hw => hsc w hw.bel) ?_
 refine s10 ?_
 refine kJ [(0, _), (3, _), (5, _), (6, _), (7, _), (8, _), (9, _), (10, _), (11, _), (12, _), (13, _), (14, _), (15, _), (16, _), (17, _), (18, _)] ?_
 refine s3 ?_
 refine aDecT ?_ rfl
 refine s3 ?_
 refine aBoolF ?_ rfl
 refine s20 ?_
 refine kJ [(0, _), (3, _), (5, _), (6, _), (7, _), (8, _), (9, _), (10, _), (13, _), (14, _), (15, _), (16, _), (17, _), (18, _), (19, _)] ?_
 refine xD [0, 1, 2, 3, 4, 5, 6, 7, 8, 9, 10, 11, 12, 13, 14, 15, 16, 17, 19, 20, 18, 21, 22, 23, 24, 26, 27, 25, 28, 29, 30, 31, 32, 33, 34, 35, 36, 37, 38, 39, 40, 41, 42, 43, 44, 45] [20, 27] ?_
 refine s3 ?_
 refine dDecT ?_ rfl
 refine s4 ?_
 refine dDecT ?_ rfl
 refine s5 ?_
 refine dDecT ?_ rfl
 refine s8 ?_
 refine dS rfl (oS (fun w hw => Position_any b kf kt ks ke kp fr sA l sk tn none w (It.up_cell h.cell hw.bel) (h.row.up ET hw.bel) (by omega))) (fun A88 c88 => ?_)
 refine dCB rfl (fun w hw => refSame l l _ _ w (own_arr (A := A88) (c := c88) (L := l) ET hw (by repeat constructor) (by omega)) (hrow.up ET hw.bel)) ?_
 refine dDecT ?_ rfl
 refine s5 ?_
 refine dCB rfl (fun w hw => Thrown_any b kf kt ks ke kp true fr sA l.length sk tn none w (It.up_cell h.cell hw.bel)) ?_
 refine s1 ?_
 refine dDecT ?_ rfl
 refine s5 ?_
 refine dDecT ?_ rfl
 refine s5 ?_
 refine dDecT ?_ rfl
 refine s5 ?_
 refine dDecT ?_ rfl
 refine s5 ?_
 refine JR_one rfl (rr_tmp rfl) ?_
 intro w' hw
 exact ⟨rfl, hw.bel⟩
end Go.Proofs.YtomcpgdpjpjioaaGreat
/- Layer 7: alike, a ruling pending. -/
namespace Go.Proofs.YtomcpgdpjpjioaaGreat
open Go Go.RowKit Go.Proofs
attribute [local irreducible] J JQ JL JA JD

set_option maxRecDepth 100000 in
set_option maxHeartbeats 4000000 in
theorem alike_some (b : Nat) (e : EnM) (e2 : RfM) (w : World) (h : EndW w b e) (hok : EnOk e.pl) (hn : ∀ m, e.p = some m → ∀ p ∈ m.t.L, p.d.n = p.d.l.length ∧ p.d.l.length ≤ 16) (hp0 : e.p ≠ none) (hP : RfP e.pl e2) (hW : RfW w e2) : Calls Tryz.prog 18 #[.pointer (some ⟨b, 0, none⟩), Rfv e2] w (Back (.bool true) w) := by
 obtain ⟨⟨kf, kt, ks, ke, kp⟩, fr, l, sA, sk, tn, pd⟩ := e
 obtain ⟨pm, rfl⟩ : ∃ m, pd = some m := by
  cases pd with
  | none => exact absurd rfl hp0
  | some m => exact ⟨m, rfl⟩
 obtain ⟨c2, fr2, l2, A, k, tn2, pn, r, ch, ⟨tA, tc, tL⟩⟩ := e2
 have hP0 := hP
 obtain ⟨i1, i2, i3, i4, i5, i6, i7⟩ := hP
 dsimp only [EnM.pl] at i1 i2 i3 i4 i5
 subst c2 fr2 l2 tn2
 obtain rfl : pn = true := i5
 have i8 := i6 (pm.r, pm.h, pm.t.L.map oP) rfl
 obtain ⟨i9, i10, i11⟩ := i8
 dsimp only at i9 i10 i11
 subst r ch
 obtain ⟨hrow, hout, hoc⟩ := hW
 dsimp only at hrow hout hoc
 have hl16 := hok.l
 have htn := hok.tn
 have he := hok.e
 have hfr := hok.fr
 dsimp only [EnM.pl] at hl16 htn he hfr
 have hsc : ∀ W, Below w.heap.size w W → Calls Tryz.prog 49 #[Rfv (⟨⟨kf, kt, ks, ke, kp⟩, fr, l, A, k, tn, true, pm.r, pm.h, ⟨tA, tc, tL⟩⟩ : RfM)] W (Back (.tuple #[.int .i64 (scoF (EnM.pl (⟨⟨kf, kt, ks, ke, kp⟩, fr, l, sA, sk, tn, (some pm)⟩ : EnM))).1, .int .i64 (scoF (EnM.pl (⟨⟨kf, kt, ks, ke, kp⟩, fr, l, sA, sk, tn, (some pm)⟩ : EnM))).2.1, .int .i64 (scoF (EnM.pl (⟨⟨kf, kt, ks, ke, kp⟩, fr, l, sA, sk, tn, (some pm)⟩ : EnM))).2.2]) W) := fun W hb => by
  have h := refScore (⟨⟨kf, kt, ks, ke, kp⟩, fr, l, A, k, tn, true, pm.r, pm.h, ⟨tA, tc, tL⟩⟩ : RfM) W (hrow.up ET hb) he
  rw [show (if ((⟨⟨kf, kt, ks, ke, kp⟩, fr, l, A, k, tn, true, pm.r, pm.h, ⟨tA, tc, tL⟩⟩ : RfM)).tn < 2 * ((⟨⟨kf, kt, ks, ke, kp⟩, fr, l, A, k, tn, true, pm.r, pm.h, ⟨tA, tc, tL⟩⟩ : RfM)).c.e then (0, 0, 9) else cntF ((⟨⟨kf, kt, ks, ke, kp⟩, fr, l, A, k, tn, true, pm.r, pm.h, ⟨tA, tc, tL⟩⟩ : RfM)).l) = scoF (EnM.pl (⟨⟨kf, kt, ks, ke, kp⟩, fr, l, sA, sk, tn, (some pm)⟩ : EnM)) from sco_eq (E := EnM.pl (⟨⟨kf, kt, ks, ke, kp⟩, fr, l, sA, sk, tn, (some pm)⟩ : EnM)) htn.2] at h
  exact h
 refine J_enter (fun _ => False) (vs := [.pointer (some ⟨b, 0, none⟩), .agg #[.int .i64 kf, .int .i64 kt, .int .i64 ks, .int .i64 ke, .bool kp, .int .i64 fr, .slice A l.length k, .int .i64 tn, .bool true, .int .i64 pm.r, .int .i64 pm.h, .slice tA tL.length tc]]) (k := 113) (l := [(0, .pointer (some ⟨b, 0, none⟩)), (1, .agg #[.int .i64 kf, .int .i64 kt, .int .i64 ks, .int .i64 ke, .bool kp, .int .i64 fr, .slice A l.length k, .int .i64 tn, .bool true, .int .i64 pm.r, .int .i64 pm.h, .slice tA tL.length tc])]) Tryz.func18 rfl rfl Tryz.ntmps18 rfl rfl (Wd.start _) ?_
 refine s2 ?_
 refine aW (oX [_, _, _, _, _, _, _, _, _, _, _, _]) (fun b3 hb3 => ?_)
 refine s6 ?_
 refine aCB (fun w hw => Next_any b (⟨⟨kf, kt, ks, ke, kp⟩, fr, l, sA, sk, tn, (some pm)⟩ : EnM) w (h.up hw.bel) hok) ?_
 refine s10 ?_
 refine kJ [(0, _), (3, _), (5, _), (6, _), (7, _)] ?_
 refine s1 ?_
 refine aV (vAgg [_, _, _, _, _, _, _, _, _, _, _, _] rfl rfl rfl (by repeat constructor) rfl) ?_
 refine aCB (fun w hw => (refNext (⟨⟨kf, kt, ks, ke, kp⟩, fr, l, A, k, tn, true, pm.r, pm.h, ⟨tA, tc, tL⟩⟩ : RfM) w he (by dsimp only; omega) hfr).mono (fun _ _ hh => by rw [next_eq hP0] at hh; exact hh)) ?_
 refine s10 ?_
 refine kJ [(0, _), (3, _), (5, _), (6, _), (7, _), (8, _), (9, _), (10, _)] ?_
 refine s2 ?_
 refine aW (oR (fun w hw => Pending_any b (⟨⟨kf, kt, ks, ke, kp⟩, fr, l, sA, sk, tn, (some pm)⟩ : EnM) w (h.up hw.bel) hok hn)) (fun t34 ht34 => ?_)
 dsimp only [ocI, List.cons_append, List.nil_append]
 have hl34 : t34.L.length ≤ 3 := by
  have h1 : t34.L.length = (pm.t.L.map oP).length := by rw [← ht34.1, List.length_map]
  have h2 := (hok.p (pm.r, pm.h, pm.t.L.map oP) rfl).2.1.2
  dsimp only at h2
  omega
 refine s3 ?_
 refine aW oA (fun b11 hb11 => ?_)
 refine s5 ?_
 refine kJ [(0, _), (3, _), (5, _), (6, _), (7, _), (8, _), (9, _), (10, _), (11, _), (12, _)] ?_
 refine s2 ?_
 refine aCB (fun w hw => Score_any b (⟨⟨kf, kt, ks, ke, kp⟩, fr, l, sA, sk, tn, (some pm)⟩ : EnM) w (h.up hw.bel) hok) ?_
 refine s10 ?_
 refine kJ [(0, _), (3, _), (5, _), (6, _), (7, _), (8, _), (9, _), (10, _), (11, _), (12, _), (13, _), (14, _), (15, _)] ?_
 refine s1 ?_
 refine aV (vAgg [_, _, _, _, _, _, _, _, _, _, _, _] rfl rfl rfl (by repeat constructor) rfl) ?_
 refine aCB (fun w hw => hsc w hw.bel) ?_
 refine s10 ?_
 refine kJ [(0, _), (3, _), (5, _), (6, _), (7, _), (8, _), (9, _), (10, _), (11, _), (12, _), (13, _), (14, _), (15, _), (16, _), (17, _), (18, _)] ?_
 refine s3 ?_
 refine aDecF ?_ (by decide)
 refine s8 ?_
 refine aDecT ?_ rfl
 refine s3 ?_
 refine aBoolT ?_ rfl
 refine s5 ?_
 refine aCB (fun w hw => refSameRuling pm.r pm.h t34.L t34.A t34.c pm.r pm.h tL tA tc w (own_arr (A := t34.A) (c := t34.c) (L := t34.L) EO hw (by repeat constructor) (by omega)) (fun p hp => by unfold OcW Dv.v; rw [(ht34.2 p hp).1]; exact oc_arr (hw.ok (grpB (t34.L.map rwB)) (by repeat constructor)).1 hp (ht34.2 p hp).1 (ht34.2 p hp).2) (hout.up EO hw.bel) (fun p hp => (hoc p hp).up hw.bel)) ?_
 refine aDecT ?_ ⟨rfl, rfl, by rw [ht34.1, i11]⟩
 refine s6 ?_
 refine kJ [(0, _), (3, _), (5, _), (6, _), (7, _), (8, _), (9, _), (10, _), (13, _), (14, _), (15, _), (16, _), (17, _), (18, _), (19, _)] ?_
 refine xD [0, 1, 2, 3, 4, 5, 6, 7, 8, 9, 10, 11, 12, 13, 14, 15, 16, 17, 19, 20, 18, 21, 22, 23, 24, 26, 27, 25, 28, 29, 30, 31, 32, 33, 34, 35, 36, 37, 38, 39, 40, 41, 42, 43, 44, 45] [20, 27] ?_
 refine s3 ?_
 refine dDecT ?_ rfl
 refine s4 ?_
 refine dDecT ?_ rfl
 refine s5 ?_
 refine dDecT ?_ rfl
 refine s8 ?_
 refine dS rfl (oS (fun w hw => Position_any b kf kt ks ke kp fr sA l sk tn (some ⟨pm.b, 0, none⟩) w (It.up_cell h.cell hw.bel) (h.row.up ET hw.bel) (by omega))) (fun A88 c88 => ?_)
 refine dCB rfl (fun w hw => refSame l l _ _ w (own_arr (A := A88) (c := c88) (L := l) ET hw (by repeat constructor) (by omega)) (hrow.up ET hw.bel)) ?_
 refine dDecT ?_ rfl
 refine s5 ?_
 refine dCB rfl (fun w hw => Thrown_any b kf kt ks ke kp true fr sA l.length sk tn (some ⟨pm.b, 0, none⟩) w (It.up_cell h.cell hw.bel)) ?_
 refine s1 ?_
 refine dDecT ?_ rfl
 refine s5 ?_
 refine dDecT ?_ rfl
 refine s5 ?_
 refine dDecT ?_ rfl
 refine s5 ?_
 refine dDecT ?_ rfl
 refine s5 ?_
 refine JR_one rfl (rr_tmp rfl) ?_
 intro w' hw
 exact ⟨rfl, hw.bel⟩
end Go.Proofs.YtomcpgdpjpjioaaGreat
/- Layer 7: at. -/
namespace Go.Proofs.YtomcpgdpjpjioaaGreat
open Go Go.RowKit Go.Proofs
attribute [local irreducible] J JQ JL JA JD

set_option maxRecDepth 100000 in
set_option maxHeartbeats 4000000 in
theorem at_any (x y : Int) (w : World) (hx : -100000 ≤ x ∧ x ≤ 100000) (hy : -100000 ≤ y ∧ y ≤ 100000) : Calls Tryz.prog 26 #[.int .i64 x, .int .i64 y] w (Back (.agg #[.int .i64 (x * 65536), .int .i64 (y * 65536)]) w) := by
 refine J_enter (fun _ => False) (vs := [.int .i64 x, .int .i64 y]) (k := 8) (l := [(0, .int .i64 x), (1, .int .i64 y)]) Tryz.func26 rfl rfl Tryz.ntmps26 rfl rfl (Wd.start _) ?_
 refine s2 ?_
 refine aW oA (fun b4 hb4 => ?_)
 refine s8 ?_
 refine aP (rp_buildC (fun us => [us.getD 0 undef, us.getD 1 undef]) rfl rfl (fun w => by kernel_rfl)) ?_
 refine s4 ?_
 refine JR_one rfl (rr_agg (cs := [_, _]) rfl Agg.h (Siz.h (k := 2)) (by repeat constructor) (by rfl)) ?_
 intro w' hw
 exact ⟨rfl, hw.bel⟩
end Go.Proofs.YtomcpgdpjpjioaaGreat
/- An entry of a map's literal; strings as keys. Over any program. -/
namespace Go.Proofs.YtomcpgdpjpjioaaGreat
open Go Go.RowKit Go.Proofs Go.Shelf Go.ChangeMaps
section
variable {P : Program} {α β : Type} {kt e t : TypeId} {kv : α → Value} {ok : α → Prop} {ev : β → Value} {ed : β → DataW Unit} {z : β} {okE : β → Prop}
variable {n : Nat} {B : Bs} {Q : Exit → Act → World → Prop} {l : Sl} {H H' : List It} {ops : Array Oper} {rest : List Oper} {o : Oper} {x y q : Operand}
theorem ow_insK [DecidableEq α] {b m' m'' : Nat} {f : α → Option β} {u s : Value} (K : KeyL P kt kv ok) (E : ElL P e ev ed z okE) (k : α) (r : β) (ht : P.underlying t = some (.map kt e)) (ho : o.op = .insert t x y q) (hd : o.dst = none) (hx : evl l x = some (.map (some b))) (hy : evl l y = some u) (hq : evl l q = some s) (hu : u = kv k) (hs : s = ev r)
  (hat : At (mapK P kt e kv ok ed b m' f) (mapK P kt e kv ok ed b m'' (upd f k r)) H H') (hk : ok k) (hr : okE r) (hmn : m' < 1000000) (hm2 : m' + 1 ≤ m'') : OpW P n B (some (mapK P kt e kv ok ed b m' f)) l H o (fun _ : Unit => True) (fun _ => l) (fun _ => H') :=
 OpW.of_skip hd (fun a w ha hw => by
  obtain ⟨n, c, h0, h⟩ := (hw.ok _ hat.mem).1
  obtain ⟨w', h1, h2, h3⟩ := h.put K E ht (by omega) hk hr
  have hc : Chg (mapK P kt e kv ok ed b m' f) w w' := ⟨h3.os, h3.tape, h3.output, h3.size, fun k hk hnk => h3.block k hk (fun e => hnk (by injection e))⟩
  refine ⟨(), w', trivial, by unfold execOp; rw [ho]; simp only [ha.ev hx, ha.ev hy, ha.ev hq, hu, hs, Sem.run_bind, h1, Result.andThen_ok, Sem.run_pure], hw.chg hat rfl rfl hc ⟨_, _, by omega, h2⟩ (fun k hk => ⟨.inl hk, ?_⟩), hc⟩
  have : k = b := hk
  subst this
  exact h2.lt)
end
def okS (s : ByteArray) : Prop := s.size ≤ maxLen
def kS (s : ByteArray) : Value := .string s
theorem KS {P : Program} {t : TypeId} [u : Und P t .string] : KeyL P t kS okS where
 law := Maps.string_keyed u.h
 key := fun x hx => ⟨_, WideMaps.keyOf_string_mk u.h hx⟩
 inj := fun x y h => by simpa [kS] using h
end Go.Proofs.YtomcpgdpjpjioaaGreat
/- Layer 7: Named. -/
namespace Go.Proofs.YtomcpgdpjpjioaaGreat
open Go Go.RowKit Go.Proofs
attribute [local irreducible] J JQ JL JA JD

abbrev n_world : ByteArray := ⟨#[119, 111, 114, 108, 100]⟩
abbrev n_four : ByteArray := ⟨#[102, 111, 117, 114]⟩
abbrev n_three : ByteArray := ⟨#[116, 104, 114, 101, 101]⟩
abbrev n_old : ByteArray := ⟨#[111, 108, 100]⟩
abbrev n_mixed : ByteArray := ⟨#[109, 105, 120, 101, 100]⟩
abbrev n_chair : ByteArray := ⟨#[99, 104, 97, 105, 114]⟩
/-- The codes by their names. -/
def namF : ByteArray → Option Cd := (upd (upd (upd (upd (upd (upd (fun _ => none) n_world (⟨5, 5, 0, 8, false⟩ : Cd)) n_four (⟨4, 0, 0, 8, false⟩ : Cd)) n_three (⟨3, 0, 0, 8, false⟩ : Cd)) n_old (⟨0, 0, 0, 8, false⟩ : Cd)) n_mixed (⟨0, 0, 3, 5, true⟩ : Cd)) n_chair (⟨5, 0, 0, 8, false⟩ : Cd))
def namR (s : ByteArray) : Value := match namF s with
 | some c => .tuple #[Cdv c, .int .i64 0]
 | none => .tuple #[Cdv ⟨0, 0, 0, 0, false⟩, .int .i64 7]
def dC (c : Cd) : DataW Unit := .agg [.lit (.int .i64 c.f), .lit (.int .i64 c.t), .lit (.int .i64 c.s), .lit (.int .i64 c.e), .lit (.bool c.p)]
def eC (c : Cd) : List Value := [.int .i64 c.f, .int .i64 c.t, .int .i64 c.s, .int .i64 c.e, .bool c.p]
theorem LCd : ElL Tryz.prog 23 (fun c : Cd => Cdv c) dC ⟨0, 0, 0, 0, false⟩ (fun _ => True) where
 zero := Zer.h
 okz := trivial
 rd := fun _ _ => rfl
 inv := fun _ x _ h => rdE_agg (l := eC x) rfl plain_agg h
theorem ok_lit {s : ByteArray} (h : s.size ≤ 1000) : okS s := Nat.le_trans h (by decide)
set_option maxRecDepth 100000 in
set_option maxHeartbeats 4000000 in
theorem Named_any (s : ByteArray) (w : World) (hs : okS s) : Calls Tryz.prog 25 #[.string s] w (Back (namR s) w) := by
 refine J_enter (fun _ => False) (vs := [.string s]) (k := 24) (l := [(0, .string s)]) Tryz.func25 rfl rfl Tryz.ntmps25 rfl rfl (Wd.start _) ?_
 refine s2 ?_
 refine aW oA (fun b2 hb2 => ?_)
 refine s5 ?_
 refine aW (ow_makeK (kt := 9) (e := 23) (kv := kS) (ok := okS) (ed := dC) rfl rfl rfl (fun _ => by kernel_rfl)) (fun b7 hb7 => ?_)
 refine aP (rp_buildC (fun us => [us.getD 0 undef, us.getD 1 undef, .int .i64 0, us.getD 2 undef, .bool false]) rfl rfl (fun w => by kernel_rfl)) ?_
 refine aW0 (ow_insK (m' := 0) (f := (fun _ => none)) KS LCd n_world (⟨5, 5, 0, 8, false⟩ : Cd) Und.h rfl rfl rfl rfl rfl rfl rfl (by repeat constructor) (ok_lit (by decide)) trivial (by omega) (Nat.le_refl _)) ?_
 refine aP (rp_buildC (fun us => [us.getD 0 undef, .int .i64 0, .int .i64 0, us.getD 1 undef, .bool false]) rfl rfl (fun w => by kernel_rfl)) ?_
 refine aW0 (ow_insK (m' := 1) (f := (upd (fun _ => none) n_world (⟨5, 5, 0, 8, false⟩ : Cd))) KS LCd n_four (⟨4, 0, 0, 8, false⟩ : Cd) Und.h rfl rfl rfl rfl rfl rfl rfl (by repeat constructor) (ok_lit (by decide)) trivial (by omega) (Nat.le_refl _)) ?_
 refine aP (rp_buildC (fun us => [us.getD 0 undef, .int .i64 0, .int .i64 0, us.getD 1 undef, .bool false]) rfl rfl (fun w => by kernel_rfl)) ?_
 refine aW0 (ow_insK (m' := 2) (f := (upd (upd (fun _ => none) n_world (⟨5, 5, 0, 8, false⟩ : Cd)) n_four (⟨4, 0, 0, 8, false⟩ : Cd))) KS LCd n_three (⟨3, 0, 0, 8, false⟩ : Cd) Und.h rfl rfl rfl rfl rfl rfl rfl (by repeat constructor) (ok_lit (by decide)) trivial (by omega) (Nat.le_refl _)) ?_
 refine aP (rp_buildC (fun us => [.int .i64 0, .int .i64 0, .int .i64 0, us.getD 0 undef, .bool false]) rfl rfl (fun w => by kernel_rfl)) ?_
 refine aW0 (ow_insK (m' := 3) (f := (upd (upd (upd (fun _ => none) n_world (⟨5, 5, 0, 8, false⟩ : Cd)) n_four (⟨4, 0, 0, 8, false⟩ : Cd)) n_three (⟨3, 0, 0, 8, false⟩ : Cd))) KS LCd n_old (⟨0, 0, 0, 8, false⟩ : Cd) Und.h rfl rfl rfl rfl rfl rfl rfl (by repeat constructor) (ok_lit (by decide)) trivial (by omega) (Nat.le_refl _)) ?_
 refine aP (rp_buildC (fun us => [.int .i64 0, .int .i64 0, us.getD 0 undef, us.getD 1 undef, us.getD 2 undef]) rfl rfl (fun w => by kernel_rfl)) ?_
 refine aW0 (ow_insK (m' := 4) (f := (upd (upd (upd (upd (fun _ => none) n_world (⟨5, 5, 0, 8, false⟩ : Cd)) n_four (⟨4, 0, 0, 8, false⟩ : Cd)) n_three (⟨3, 0, 0, 8, false⟩ : Cd)) n_old (⟨0, 0, 0, 8, false⟩ : Cd))) KS LCd n_mixed (⟨0, 0, 3, 5, true⟩ : Cd) Und.h rfl rfl rfl rfl rfl rfl rfl (by repeat constructor) (ok_lit (by decide)) trivial (by omega) (Nat.le_refl _)) ?_
 refine aP (rp_buildC (fun us => [us.getD 0 undef, .int .i64 0, .int .i64 0, us.getD 1 undef, .bool false]) rfl rfl (fun w => by kernel_rfl)) ?_
 refine aW0 (ow_insK (m' := 5) (f := (upd (upd (upd (upd (upd (fun _ => none) n_world (⟨5, 5, 0, 8, false⟩ : Cd)) n_four (⟨4, 0, 0, 8, false⟩ : Cd)) n_three (⟨3, 0, 0, 8, false⟩ : Cd)) n_old (⟨0, 0, 0, 8, false⟩ : Cd)) n_mixed (⟨0, 0, 3, 5, true⟩ : Cd))) KS LCd n_chair (⟨5, 0, 0, 8, false⟩ : Cd) Und.h rfl rfl rfl rfl rfl rfl rfl (by repeat constructor) (ok_lit (by decide)) trivial (by omega) (Nat.le_refl _)) ?_
 refine s5 ?_
 rcases hr : namF s with _ | c
 ·refine kJ [(0, _), (2, _), (4, _)] ?_
  refine s3 ?_
  refine aV (rv_lookK2 KS LCd s Und.h rfl rfl rfl (by repeat constructor) rfl hs hr) ?_
  refine s3 ?_
  refine aW oA (fun b5 hb5 => ?_)
  refine s6 ?_
  refine kJ [(2, _), (5, _), (6, _)] ?_
  refine s7 ?_
  refine kJ [(2, _)] ?_
  refine s1 ?_
  refine aP (rp_buildC (fun us => [.int .i64 0, .int .i64 0, .int .i64 0, .int .i64 0, .bool false]) rfl rfl (fun w => by kernel_rfl)) ?_
  refine s6 ?_
  refine JR_two rfl (rr_agg (cs := [_, _, _, _, _]) rfl Agg.h (Siz.h (k := 5)) (by repeat constructor) (by rfl)) (rr_tmp rfl) ?_
  intro w' hw
  unfold namR
  rw [hr]
  exact ⟨rfl, hw.bel⟩
 ·obtain ⟨kf, kt, ks, ke, kp⟩ := c
  refine kJ [(0, _), (2, _), (4, _)] ?_
  refine s3 ?_
  refine aV (rv_lookK2 KS LCd s Und.h rfl rfl rfl (by repeat constructor) rfl hs hr) ?_
  refine s3 ?_
  refine aW oA (fun b5 hb5 => ?_)
  refine s6 ?_
  refine kJ [(2, _), (5, _), (6, _)] ?_
  refine s16 ?_
  refine JR_two rfl (rr_agg (cs := [_, _, _, _, _]) rfl Agg.h (Siz.h (k := 5)) (by repeat constructor) (by rfl)) (rr_tmp rfl) ?_
  intro w' hw
  unfold namR
  rw [hr]
  exact ⟨rfl, hw.bel⟩
end Go.Proofs.YtomcpgdpjpjioaaGreat
/- Items as one view; one item out of a group. Over any program. -/
namespace Go.Proofs.YtomcpgdpjpjioaaGreat
open Go Go.RowKit Go.Proofs Go.Shelf
theorem Pk.skip (C : It) {l H : List It} (h : Pk l H) : Pk l (C :: H) := by
 induction h with
 | nil H => exact .nil _
 | pick r _ ih => exact .pick (.there C r) ih
theorem Pk.mid (A : It) : ∀ HS H1 : List It, Pk (HS ++ A :: H1) (A :: (HS ++ H1))
 | [], _ => Pk.refl _
 | _ :: HS, H1 => .pick (.there A (.here _)) (Pk.mid A HS H1)
section
variable {P : Program} {n : Nat} {B : Bs} {Q : Exit → Act → World → Prop} {l : Sl} {H H1 H2 HA HS rows : List It} {ops : Array Oper} {rest : List Oper} {c : Code} {w : World}
/-- Items that are read alone from here on. -/
def roU (HA : List It) : It where
 ro := true
 foot b := ∃ A ∈ HA, A.foot b
 holds w := ∀ A ∈ HA, A.holds w
 st w w' hb h := fun A hA => A.st w w' (fun b hf => hb b ⟨A, hA, hf⟩) (h A hA)
theorem Wd.roU (h : Wd B H w) (hk : Pk (rows ++ H1) H) : Wd B (Go.Proofs.YtomcpgdpjpjioaaGreat.roU rows :: H1) w := by
 have h0 := h.pick hk
 obtain ⟨s1, s2, s3⟩ := List.pairwise_append.1 h0.sep
 refine ⟨h0.os, h0.tape, h0.output, h0.size, h0.block, fun D hD => ?_, List.pairwise_cons.2 ⟨fun D hD => ?_, s2⟩⟩
 ·rcases List.mem_cons.1 hD with rfl | hD
  ·exact ⟨fun A hA => (h0.ok A (by simp [hA])).1, fun b ⟨A, hA, hb⟩ => ⟨.inl rfl, ((h0.ok A (by simp [hA])).2 b hb).2⟩⟩
  ·exact h0.ok D (by simp [hD])
 ·cases e : D.ro
  ·exact .inr (fun b ⟨A, hA, hb⟩ h2 => sepR.out (sepR_symm _ _ (s3 A hA D hD)) e b h2 hb)
  ·exact .inl ⟨rfl, rfl⟩
/-- Another view of what some items hold. -/
theorem Wd.viewU {D : It} (h : Wd B H w) (hk : Pk (rows ++ H1) H) (hDr : D.ro = true) (hD : D.holds w) (hf : ∀ b, D.foot b → ∃ A ∈ rows, A.foot b) : Wd B (D :: H1) w :=
 ((h.roU hk).addRo (.here H1) rfl hDr hD hf).pick (.pick (.here _) ((Pk.refl H1).skip _))
/-- One item out of a group. -/
theorem Wd.unc {A : It} (h : Wd B H w) (hk : Pk (grpB (A :: HS) :: H1) H) (hr : (HS.all fun A => !A.ro) = true) : Wd B (A :: grpB HS :: H1) w :=
 (((h.opn hk).pick (Pk.mid A HS H1)).close (H1 := A :: H1) (HA := HS) (Pk.refl _) hr).pick (.pick (.there _ (.here _)) (.pick (.here _) (Pk.refl _)))
theorem J_map (H' : List It) (h : J P n B c Q l H') (hH : ∀ w, Wd B H w → Wd B H' w) : J P n B c Q l H := fun a w ha hw => h a w ha (hH w hw)
theorem JL_map (H' : List It) (h : JL P n B ops Q rest l H') (hH : ∀ w, Wd B H w → Wd B H' w) : JL P n B ops Q rest l H := fun a w ha hw => h a w ha (hH w hw)
theorem JQ_map {e : Exit} (H' : List It) (h : JQ n B Q e l H') (hH : ∀ w, Wd B H w → Wd B H' w) : JQ n B Q e l H := fun a w ha hw => h a w ha (hH w hw)
end
end Go.Proofs.YtomcpgdpjpjioaaGreat
/- Layer 7, the law: far, spoil, spoilt. -/
namespace Go.Proofs.YtomcpgdpjpjioaaGreat
open Go Go.RowKit Go.Proofs
attribute [local irreducible] J JQ JL JA JD

/-- A call of the law: what, of what, a throw with its stones. -/
structure Ac where
 what : Int
 n : Int
 x : Th
 d : Dv St
def eAc (p : Ac) : List Value := [.int .i64 p.what, .int .i64 p.n, .int .i64 p.x.team, .int .i64 p.x.n, .bool p.x.late, .bool p.x.short, .int .i64 p.x.how, p.d.v]
theorem EAc : Enc 8 eAc := ⟨fun _ => rfl, fun x v h => by simp [eAc, Dv.v] at h; rcases h with rfl | rfl | rfl | rfl | rfl | rfl | rfl | rfl <;> rfl⟩
def AcW (w : World) (p : Ac) : Prop := Arr 4 eT w p.d.v p.d.l ∧ p.d.n = p.d.l.length
def farB (l : List Ac) : Bool := decide (60 < l.length) || l.any (fun p => decide (20 < p.d.n))
theorem far_no {l : List Ac} (h : farB l = false) : l.length ≤ 60 ∧ ∀ p ∈ l, p.d.n ≤ 20 := by
 unfold farB at h
 rw [Bool.or_eq_false_iff, List.any_eq_false] at h
 exact ⟨by have := of_decide_eq_false h.1; omega, fun p hp => by have := h.2 p hp; simp at this; exact this⟩
theorem far_y1 {l : List Ac} (h : 60 < l.length) : farB l = true := by unfold farB; rw [decide_eq_true h]; rfl
theorem far_y2 {l : List Ac} {k : Nat} {x : Ac} (hk : k < l.length) (hx : l[k]'hk = x) (h : 20 < x.d.n) : farB l = true := by
 unfold farB
 rw [Bool.or_eq_true, List.any_eq_true]
 exact .inr ⟨x, by rw [← hx]; exact List.getElem_mem _, decide_eq_true h⟩
theorem far_n {l : List Ac} (h1 : ¬ 60 < l.length) (h2 : ∀ j (hj : j < l.length), (l[j]'hj).d.n ≤ 20) : farB l = false := by
 unfold farB
 rw [Bool.or_eq_false_iff, List.any_eq_false]
 refine ⟨decide_eq_false h1, fun x hx => ?_⟩
 obtain ⟨j, hj, rfl⟩ := List.getElem_of_mem hx
 have := h2 j hj
 simp; omega
set_option maxRecDepth 100000 in
set_option maxHeartbeats 4000000 in
theorem far_any (l : List Ac) (A : Option Addr) (cap : Nat) (w : World) (hrow : Arr 8 eAc w (.slice A l.length cap) l) : Calls Tryz.prog 16 #[.slice A l.length cap] w (Back (.bool (farB l)) w) := by
 obtain ⟨A1, cap1, e0, -, ⟨hl9, -⟩, hA⟩ := hrow
 obtain ⟨rfl, -, rfl⟩ : A = A1 ∧ True ∧ cap = cap1 := by injection e0 with e1 _ e3; exact ⟨e1, trivial, e3⟩
 refine J_enter (fun _ => False) (vs := [.slice A l.length cap]) (k := 20) (l := [(0, .slice A l.length cap)]) Tryz.func16 rfl rfl Tryz.ntmps16 rfl rfl (Wd.start _) ?_
 refine s11 ?_
 refine JL_dec (fun h6 => ?_) (fun h6 => ?_)
 ·refine s4 ?_
  refine kJ [] ?_
  refine s6 ?_
  refine JR_one rfl (rr_tmp rfl) ?_
  intro w' hw
  exact ⟨by rw [far_y1 (by omega)], hw.bel⟩
 ·refine s7 ?_
  refine kJ [(0, _)] ?_
  refine s5 ?_
  refine xL (T := Nat) (fun k => k ≤ l.length ∧ ∀ j (hj : j < l.length), j < k → (l[j]'hj).d.n ≤ 20) (fun k => [(0, .slice A l.length cap), (3, .int .i64 (k : Nat))]) (fun k => []) (fun k => l.length - k) 0 ⟨Nat.zero_le _, fun j _ h => absurd h (Nat.not_lt_zero _)⟩ ?_
  rintro k ⟨hk, hall⟩
  refine s7 ?_
  refine JL_dec (fun h10 => ?_) (fun h10 => ?_)
  ·refine s8 ?_
   have hlt : k < l.length := by omega
   obtain ⟨bk, qx, rfl, hh⟩ := hA (by intro e; subst e; simp at hlt)
   obtain ⟨⟨xw, xi, ⟨xteam, xnn, xlate, xshort, xhow⟩, ⟨xA, xn, xk, xl⟩⟩, hx⟩ : ∃ y, l[k]'hlt = y := ⟨_, rfl⟩
   refine kJ [(0, _), (3, _)] ?_
   refine s6 ?_
   refine aV (vHold (v := .slice xA xn xk) rfl rfl (fun h => h) hh hlt (by omega) (by rw [hx]; rfl)) ?_
   refine s2 ?_
   refine JL_dec (fun h20 => ?_) (fun h20 => ?_)
   ·refine s4 ?_
    refine kJ [] ?_
    refine s10 ?_
    refine JR_one rfl (rr_tmp rfl) ?_
    intro w' hw
    exact ⟨by rw [far_y2 hlt hx (by dsimp only; omega)], hw.bel⟩
   ·refine s6 ?_
    refine kJ [(0, _), (3, _)] ?_
    refine s5 ?_
    have hn : ∀ j (hj : j < l.length), j < k + 1 → (l[j]'hj).d.n ≤ 20 := fun j hj hjk => by
     rcases Nat.lt_or_ge j k with h | h
     ·exact hall j hj h
     ·obtain rfl : j = k := by omega
      rw [hx]; dsimp only; omega
    exact xR (k + 1) ⟨by omega, hn⟩ (by omega) (hl := ⟨rfl, (congrArg some (by go_num)), trivial⟩)
  ·refine s9 ?_
   refine kJ [] ?_
   refine s5 ?_
   refine JR_one rfl (rr_tmp rfl) ?_
   intro w' hw
   exact ⟨by rw [far_n (by omega) (fun j hj => hall j hj (by omega))], hw.bel⟩
set_option maxRecDepth 100000 in
set_option maxHeartbeats 4000000 in
theorem spoil_any (l : List St) (A : Option Addr) (c : Nat) (w : World) (hlb : l.length ≤ 1000) (hA : (ownB 43 4 A l.length c (l.flatMap eT)).holds w) (hAf : ∀ b, (ownB 43 4 A l.length c (l.flatMap eT)).foot b → b < w.heap.size) : Calls Tryz.prog 23 #[.slice A l.length c] w (RetM (ownB 43 4 A l.length c (l.flatMap eT)) (fun t : List St => t.length = l.length) (fun _ => .tuple #[]) (fun t => ownB 43 4 A l.length c (t.flatMap eT)) w) := by
 refine J_start (B := ⟨w, (ownB 43 4 A l.length c (l.flatMap eT)).foot, none, []⟩) rfl rfl (vs := [.slice A l.length c]) (k := 12) (l := [(0, .slice A l.length c)]) Tryz.func23 rfl rfl Tryz.ntmps23 rfl rfl (Wd.startM hA hAf) ?_
 refine s6 ?_
 refine xL (T := Nat × List St) (fun q => q.1 ≤ l.length ∧ q.2.length = l.length) (fun q => [(0, .slice A l.length c), (2, .int .i64 (q.1 : Nat))]) (fun q => [ownB 43 4 A l.length c (q.2.flatMap eT)]) (fun q => l.length - q.1) (0, l) ⟨Nat.zero_le _, rfl⟩ ?_
 rintro ⟨k, Mm⟩ ⟨hk, hml⟩
 dsimp only at hk hml ⊢
 refine s7 ?_
 refine JL_dec (fun h6 => ?_) (fun h6 => ?_)
 ·refine s7 ?_
  refine J_fact (fun hw => ?_)
  obtain ⟨g, rfl⟩ := own_some hw (ty := 43) (k := 4) (m := l.length) (c := c) (A := A) (xs := Mm.flatMap eT) (by repeat constructor) (by omega)
  clear hw
  refine kJ [(0, _), (2, _)] ?_
  refine s3 ?_
  refine aP (rp_buildC (fun us => [.int .i64 0, us.getD 0 undef, .int .i64 0, .int .i64 0]) rfl rfl (fun w => by kernel_rfl)) ?_
  refine s1 ?_
  refine aW0 (oStE ET [_, _, _, _] ⟨0, -9, 0, 0⟩ (show k < Mm.length by omega) (hi := Nat.le_refl _)) ?_
  refine s3 ?_
  refine kJ [(0, _), (2, _)] ?_
  refine s5 ?_
  exact xR (k + 1, Mm.set k ⟨0, -9, 0, 0⟩) ⟨by dsimp only; omega, by dsimp only; rw [List.length_set]; exact hml⟩ (by dsimp only; omega) (hl := ⟨rfl, (congrArg some (by go_num)), trivial⟩)
 ·refine s7 ?_
  refine JR_end rfl ?_
  intro w' hw
  exact ⟨Mm, hml, rfl, hw.pick (by repeat constructor)⟩
set_option maxRecDepth 100000 in
set_option maxHeartbeats 4000000 in
theorem spoilt_any (r h : Int) (jA : Option Addr) (jc : Nat) (jL : List Oc) (w : World) (h0 : Wd ⟨w, (allI (ocI ⟨jA, jc, jL⟩)).foot, none, []⟩ (ocI ⟨jA, jc, jL⟩) w) (hn : ∀ p ∈ jL, p.d.n = p.d.l.length ∧ p.d.l.length ≤ 16) (hl : jL.length ≤ 1000) : Calls Tryz.prog 24 #[.agg #[.int .i64 r, .int .i64 h, .slice jA jL.length jc]] w (RetL (ocI ⟨jA, jc, jL⟩) (fun _ : Unit => True) (fun _ => .tuple #[]) (fun _ => []) w) := by
 refine J_start (B := ⟨w, (allI (ocI ⟨jA, jc, jL⟩)).foot, none, []⟩) rfl rfl (vs := [.agg #[.int .i64 r, .int .i64 h, .slice jA jL.length jc]]) (k := 21) (l := [(0, .agg #[.int .i64 r, .int .i64 h, .slice jA jL.length jc])]) Tryz.func24 rfl rfl Tryz.ntmps24 rfl rfl ((show Wd ⟨w, (allI (ocI ⟨jA, jc, jL⟩)).foot, none, []⟩ [ownB 82 2 jA jL.length jc (jL.flatMap eO), grpB (jL.map rwB)] w from h0)) ?_
 refine s2 ?_
 refine aW (oX [_, _, _]) (fun b1 hb1 => ?_)
 refine s8 ?_
 refine xL (T := Nat × List Oc) (fun q => q.1 ≤ jL.length ∧ q.2.length = jL.length ∧ q.2.drop q.1 = jL.drop q.1) (fun q => [(1, .pointer (some ⟨b1, 0, none⟩)), (2, .int .i64 (q.1 : Nat))]) (fun q => [cellB b1 [.int .i64 r, .int .i64 h, .slice jA jL.length jc] 47, ownB 82 2 jA jL.length jc (q.2.flatMap eO), grpB ((jL.drop q.1).map rwB)]) (fun q => jL.length - q.1) (0, jL) ⟨Nat.zero_le _, rfl, rfl⟩ ?_ (hH := by (try dsimp only); rw [List.drop_zero]; repeat constructor)
 rintro ⟨k, Mm⟩ ⟨hk, hml, hmd⟩
 dsimp only at hk hml hmd ⊢
 refine s8 ?_
 refine JL_dec (fun h7 => ?_) (fun h7 => ?_)
 ·refine s8 ?_
  have hlt : k < jL.length := by omega
  have hkM : k < Mm.length := by omega
  refine J_fact (fun hw => ?_)
  obtain ⟨g, rfl⟩ := own_some hw (ty := 82) (k := 2) (m := jL.length) (c := jc) (A := jA) (xs := Mm.flatMap eO) (by repeat constructor) (by omega)
  clear hw
  obtain ⟨⟨⟨xA, xn, xk, xl⟩, xg⟩, hx⟩ : ∃ y, Mm[k]'hkM = y := ⟨_, rfl⟩
  have hd0 : jL.drop k = (⟨⟨xA, xn, xk, xl⟩, xg⟩ : Oc) :: Mm.drop (k + 1) := by rw [← hmd, List.drop_eq_getElem_cons hkM, hx]
  have hd1 : Mm.drop (k + 1) = jL.drop (k + 1) := by
   have e := congrArg List.tail hd0
   rw [List.tail_drop] at e
   exact e.symm
  obtain ⟨hxn, hxl⟩ := hn (⟨⟨xA, xn, xk, xl⟩, xg⟩ : Oc) (List.mem_of_mem_drop (i := k) (by rw [hd0]; exact List.mem_cons_self))
  dsimp only at hxn hxl
  subst hxn
  rw [hd0, hd1, List.map_cons]
  refine J_map (rwB (⟨⟨xA, xl.length, xk, xl⟩, xg⟩ : Oc) :: grpB ((jL.drop (k + 1)).map rwB) :: [cellB b1 [.int .i64 r, .int .i64 h, .slice (some ⟨g, 0, none⟩) jL.length jc] 47, ownB 82 2 (some ⟨g, 0, none⟩) jL.length jc (Mm.flatMap eO)]) ?_ (fun w hw => hw.unc (by repeat constructor) (map_nro (fun _ => rfl) _))
  dsimp only
  refine kJ [(1, _), (2, _)] ?_
  refine s6 ?_
  refine aV (vOwn EO (v := .slice xA xl.length xk) rfl rfl (by repeat constructor) hkM (by omega) (by rw [hx]; rfl)) ?_
  refine aW (oM (fun w hw => spoil_any xl xA xk w (by omega) (hw.ok (ownB 43 4 xA xl.length xk (xl.flatMap eT)) (by repeat constructor)).1 (fun b hb => ((hw.ok (ownB 43 4 xA xl.length xk (xl.flatMap eT)) (by repeat constructor)).2 b hb).2))) (fun _ _ => ?_)
  refine s2 ?_
  refine kJ [(1, _), (2, _)] ?_
  refine s4 ?_
  refine aP (rp_buildC (fun us => [.slice none 0 0, us.getD 0 undef]) rfl rfl (fun w => by kernel_rfl)) ?_
  refine s1 ?_
  refine aW0 (oStE EO [_, _] (⟨⟨none, 0, 0, []⟩, true⟩ : Oc) hkM (hi := Nat.le_refl _)) ?_
  refine s3 ?_
  refine kJ [(1, _), (2, _)] ?_
  refine s5 ?_
  exact xR (k + 1, Mm.set k ⟨⟨none, 0, 0, []⟩, true⟩) ⟨by dsimp only; omega, by dsimp only; rw [List.length_set]; exact hml, by dsimp only; rw [List.drop_set_of_lt (by omega)]; exact hd1⟩ (by dsimp only; omega) (hl := ⟨rfl, (congrArg some (by go_num)), trivial⟩)
 ·refine s7 ?_
  refine JR_end rfl ?_
  intro w' hw
  exact ⟨(), trivial, rfl, hw.pick (Pk.nil _)⟩
end Go.Proofs.YtomcpgdpjpjioaaGreat
/- Layer 7, the law: awake. -/
namespace Go.Proofs.YtomcpgdpjpjioaaGreat
open Go Go.RowKit Go.Proofs
attribute [local irreducible] J JQ JL JA JD

theorem cell_arr {α : Type} {k : Nat} {enc : α → List Value} (E : Enc k enc) {w : World} {b ty : Nat} {vs : List Value} (L : List α) (h : (cellB b vs ty).holds w) (hv : vs = L.flatMap enc) (hn : L.length ≤ 1000) : Arr k enc w (.slice (some ⟨b, 0, none⟩) L.length L.length) L := by
 subst hv
 refine ⟨_, _, rfl, Nat.le_refl _, ⟨by omega, by unfold maxLen; omega⟩, fun _ => ⟨b, 0, rfl, fun j hj i hi => ?_⟩⟩
 have h' : w.heap[b]? = some (.cells (L.flatMap enc).toArray ty (0, 0)) := h
 rw [Nat.zero_add, ← flat_get E hj i hi]
 have hlt : j * k + i < (L.flatMap enc).length := by
  rw [flat_len E]
  have : (j + 1) * k ≤ L.length * k := Nat.mul_le_mul_right k hj
  rw [Nat.succ_mul] at this; omega
 simp [World.cell?, h']
theorem nam_four (w : World) : Calls Tryz.prog 25 #[.string n_four] w  (Back (.tuple #[Cdv ⟨4, 0, 0, 8, false⟩, .int .i64 0]) w) := (Named_any n_four w (ok_lit (by decide))).mono (fun _ _ h => by rw [show namR n_four = .tuple #[Cdv ⟨4, 0, 0, 8, false⟩, .int .i64 0] by kernel_rfl] at h; exact h)
theorem nam_world (w : World) : Calls Tryz.prog 25 #[.string n_world] w  (Back (.tuple #[Cdv ⟨5, 5, 0, 8, false⟩, .int .i64 0]) w) := (Named_any n_world w (ok_lit (by decide))).mono (fun _ _ h => by rw [show namR n_world = .tuple #[Cdv ⟨5, 5, 0, 8, false⟩, .int .i64 0] by kernel_rfl] at h; exact h)
theorem at_g (w : World) : Calls Tryz.prog 26 #[.int .i64 0, .int .i64 (-3000)] w  (Back (.agg #[.int .i64 0, .int .i64 (-196608000)]) w) := at_any 0 (-3000) w (by omega) (by omega)
theorem at_0 (w : World) : Calls Tryz.prog 26 #[.int .i64 0, .int .i64 0] w  (Back (.agg #[.int .i64 0, .int .i64 0]) w) := at_any 0 0 w (by omega) (by omega)
theorem at_m (w : World) : Calls Tryz.prog 26 #[.int .i64 300, .int .i64 (-3000)] w  (Back (.agg #[.int .i64 19660800, .int .i64 (-196608000)]) w) := at_any 300 (-3000) w (by omega) (by omega)
abbrev awL : List St := [⟨1, 0, 0, -196608000⟩]
theorem srt_awL : srt awL = awL := List.perm_singleton.1 (srt_perm awL)
abbrev awM : List St := [⟨0, 0, 0, 0⟩]
abbrev awN : List St := [⟨0, 0, 0, 0⟩, ⟨1, 0, 19660800, -196608000⟩]
theorem aw_p : proE ⟨4, 0, 0, 8, false⟩ 1 0 awL = 0 := by decide +kernel
theorem aw_k : (whN (kpB ⟨4, 0, 0, 8, false⟩ 1 0) awL awL.length).length = 1 := by decide +kernel
theorem aw_f : (whN (fxB ⟨4, 0, 0, 8, false⟩ 1 0) awL awL.length).length = 0 := by decide +kernel
theorem aw_j1 : judE ⟨4, 0, 0, 8, false⟩ 1 awL awM ⟨0, 0, false, false, 0⟩ = 0 := by decide +kernel
theorem aw_j2 : judE ⟨4, 0, 0, 8, false⟩ 4 awL awM ⟨0, 0, false, false, 0⟩ = 0 := by decide +kernel
theorem aw_j3 : judE ⟨5, 5, 0, 8, false⟩ 1 awL awN ⟨0, 0, false, false, 0⟩ = 0 := by decide +kernel
theorem aw_r1 : ruleF ⟨4, 0, 0, 8, false⟩ 1 awL awM ⟨0, 0, false, false, 0⟩ = 7 := by decide +kernel
theorem aw_r2 : ruleF ⟨4, 0, 0, 8, false⟩ 4 awL awM ⟨0, 0, false, false, 0⟩ = 0 := by decide +kernel
theorem aw_r3 : ruleF ⟨5, 5, 0, 8, false⟩ 1 awL awN ⟨0, 0, false, false, 0⟩ = 9 := by decide +kernel
theorem aw_o1 : outF awL awM ⟨0, 0, false, false, 0⟩ 7 = [(srt awL, false)] := rfl
theorem aw_o2 : outF awL awM ⟨0, 0, false, false, 0⟩ 0 = [(srt awM, false)] := rfl
theorem aw_o3 : (outF awL awN ⟨0, 0, false, false, 0⟩ 9).length = 2 := by
 have hne : ¬ srt awL = srt awN := fun h => by
  have h1 := congrArg List.length h
  simp only [srt_len] at h1
  exact absurd h1 (by decide)
 show (ddP [(srt awN, false), (srt awL, false)]).length = 2
 unfold ddP
 simp [hne]
variable {A1 A2 : Option Addr} {k1 k2 : Nat} {w : World}
theorem aw_P (h : Arr 4 eT w (.slice A1 1 k1) awL) : Calls Tryz.prog 27 #[Cdv ⟨4, 0, 0, 8, false⟩, .int .i64 1, .int .i64 0, .slice A1 1 k1] w (Ret w (fun _ : Option Addr × Nat × Option Addr × Nat => True) (fun t => .tuple #[.slice t.1 1 t.2.1, .slice t.2.2.1 0 t.2.2.2, .int .i64 0]) (fun _ => [])) :=
 (Protected_any ⟨4, 0, 0, 8, false⟩ 1 0 awL _ w h).mono (fun _ _ h => by
  unfold RetPr at h
  rw [if_pos aw_p, aw_k, aw_f] at h
  obtain ⟨t, h1, h2, h3⟩ := h
  exact ⟨t, h1, h2, h3.pick (Pk.nil _)⟩)
def JudW (r h : Int) (os : List (List St × Bool)) (w : World) : Ending → World → Prop := Ret w (OcP os) (fun t => .tuple #[Ruv r h t, .int .i64 0]) ocI
theorem aw_1 (h : Arr 4 eT w (.slice A1 1 k1) awL) (h2 : Arr 4 eT w (.slice A2 1 k2) awM) : Calls Tryz.prog 28 #[Cdv ⟨4, 0, 0, 8, false⟩, .int .i64 1, .slice A1 1 k1, Thv ⟨0, 0, false, false, 0⟩ A2 1 k2] w (Ret w (OcP [(srt awL, false)]) (fun t => .tuple #[Ruv 7 (-1) t, .int .i64 0]) ocI) :=
 (Judge_any ⟨4, 0, 0, 8, false⟩ 1 awL awM ⟨0, 0, false, false, 0⟩ _ A2 k2 w h h2).mono (fun _ _ h => by
  unfold RetJu at h
  rw [if_pos aw_j1, aw_r1, aw_o1] at h
  exact h)
theorem aw_2 (h : Arr 4 eT w (.slice A1 1 k1) awL) (h2 : Arr 4 eT w (.slice A2 1 k2) awM) : Calls Tryz.prog 28 #[Cdv ⟨4, 0, 0, 8, false⟩, .int .i64 4, .slice A1 1 k1, Thv ⟨0, 0, false, false, 0⟩ A2 1 k2] w (Ret w (OcP [(srt awM, false)]) (fun t => .tuple #[Ruv 0 (-1) t, .int .i64 0]) ocI) :=
 (Judge_any ⟨4, 0, 0, 8, false⟩ 4 awL awM ⟨0, 0, false, false, 0⟩ _ A2 k2 w h h2).mono (fun _ _ h => by
  unfold RetJu at h
  rw [if_pos aw_j2, aw_r2, aw_o2] at h
  exact h)
theorem aw_3 (h : Arr 4 eT w (.slice A1 1 k1) awL) (h2 : Arr 4 eT w (.slice A2 2 k2) awN) : Calls Tryz.prog 28 #[Cdv ⟨5, 5, 0, 8, false⟩, .int .i64 1, .slice A1 1 k1, Thv ⟨0, 0, false, false, 0⟩ A2 2 k2] w (Ret w (OcP (outF awL awN ⟨0, 0, false, false, 0⟩ 9)) (fun t => .tuple #[Ruv 9 1 t, .int .i64 0]) ocI) :=
 (Judge_any ⟨5, 5, 0, 8, false⟩ 1 awL awN ⟨0, 0, false, false, 0⟩ _ A2 k2 w h h2).mono (fun _ _ h => by
  unfold RetJu at h
  rw [if_pos aw_j3, aw_r3] at h
  exact h)
set_option maxRecDepth 100000 in
set_option maxHeartbeats 4000000 in
theorem awake_any (w : World) : Calls Tryz.prog 6 #[] w (Back (.bool true) w) := by
 refine J_enter (fun _ => False) (vs := []) (k := 144) (l := []) Tryz.func6 rfl rfl Tryz.ntmps6 rfl rfl (Wd.start _) ?_
 refine s7 ?_
 refine aCB (fun w hw => nam_four w) ?_
 refine s3 ?_
 refine aW oA (fun b1 hb1 => ?_)
 refine s5 ?_
 refine kJ [(1, _), (2, _)] ?_
 refine s1 ?_
 refine aCB (fun w hw => nam_world w) ?_
 refine s3 ?_
 refine aW oA (fun b3 hb3 => ?_)
 refine s6 ?_
 refine kJ [(1, _), (2, _), (3, _), (4, _)] ?_
 refine s3 ?_
 refine aDecF ?_ (fun h => h rfl)
 refine s3 ?_
 refine aDecF ?_ (fun h => h rfl)
 refine s7 ?_
 refine kJ [(1, _), (3, _)] ?_
 refine s1 ?_
 refine aCB (fun w hw => at_g w) ?_
 refine aP (rp_buildC (fun us => [us.getD 0 undef, .int .i64 0, us.getD 1 undef]) rfl rfl (fun w => by kernel_rfl)) ?_
 refine aW (ow_sliceC (vs := [_, _, _, _]) (ty := 43) rfl rfl (by rfl) rfl rfl (fun _ => by kernel_rfl)) (fun b33 hb33 => ?_)
 refine JL_asOwn (b := b33) (kk := 4) (m := 1) (by repeat constructor) rfl (by omega) ?_
 refine s7 ?_
 refine aW (oR (fun w hw => aw_P (own_arr (A := some ⟨b33, 0, none⟩) (c := 1) (ty := 43) (L := awL) ET hw (by repeat constructor) (by decide)))) (fun t37 _ => ?_)
 refine s10 ?_
 refine kJ [(1, _), (3, _), (5, _), (6, _), (7, _), (8, _)] ?_
 refine s1 ?_
 refine aCB (fun w hw => at_0 w) ?_
 refine aP (rp_buildC (fun us => [.int .i64 0, .int .i64 0, us.getD 0 undef]) rfl rfl (fun w => by kernel_rfl)) ?_
 refine aW (ow_sliceC (vs := [_, _, _, _]) (ty := 43) rfl rfl (by rfl) rfl rfl (fun _ => by kernel_rfl)) (fun b43 hb43 => ?_)
 refine JL_asOwn (b := b43) (kk := 4) (m := 1) (by repeat constructor) rfl (by omega) ?_
 refine aP (rp_buildC (fun us => [.int .i64 0, .int .i64 0, .bool false, .bool false, .int .i64 0, us.getD 0 undef]) rfl rfl (fun w => by kernel_rfl)) ?_
 refine aW oA (fun b9 hb9 => ?_)
 refine s4 ?_
 refine kJ [(1, _), (3, _), (5, _), (6, _), (7, _), (8, _), (9, _)] ?_
 refine s4 ?_
 refine aW (oR (fun w hw => aw_1 (own_arr (A := some ⟨b33, 0, none⟩) (c := 1) (ty := 43) (L := awL) ET hw (by repeat constructor) (by decide)) (own_arr (A := some ⟨b43, 0, none⟩) (c := 1) (ty := 43) (L := awM) ET hw (by repeat constructor) (by decide)))) (fun t49 ht49 => ?_)
 obtain ⟨A49, c49, L49⟩ := t49
 dsimp only [ocI, List.cons_append, List.nil_append]
 obtain ⟨hm49, hn49⟩ := ht49
 dsimp only at hm49 hn49
 obtain ⟨⟨⟨xA49, xn49, xk49, xl49⟩, xg49⟩, rfl⟩ := List.length_eq_one_iff.1 (show L49.length = 1 by have := congrArg List.length hm49; simpa using this)
 refine s3 ?_
 refine aW oA (fun b10 hb10 => ?_)
 refine s5 ?_
 refine kJ [(1, _), (3, _), (5, _), (6, _), (7, _), (8, _), (9, _), (10, _), (11, _)] ?_
 refine s4 ?_
 refine aW (oR (fun w hw => aw_2 (own_arr (A := some ⟨b33, 0, none⟩) (c := 1) (ty := 43) (L := awL) ET hw (by repeat constructor) (by decide)) (own_arr (A := some ⟨b43, 0, none⟩) (c := 1) (ty := 43) (L := awM) ET hw (by repeat constructor) (by decide)))) (fun t56 ht56 => ?_)
 obtain ⟨A56, c56, L56⟩ := t56
 dsimp only [ocI, List.cons_append, List.nil_append]
 obtain ⟨hm56, hn56⟩ := ht56
 dsimp only at hm56 hn56
 obtain ⟨⟨⟨xA56, xn56, xk56, xl56⟩, xg56⟩, rfl⟩ := List.length_eq_one_iff.1 (show L56.length = 1 by have := congrArg List.length hm56; simpa using this)
 refine s3 ?_
 refine aW oA (fun b12 hb12 => ?_)
 refine s5 ?_
 refine kJ [(3, _), (5, _), (6, _), (7, _), (8, _), (9, _), (10, _), (11, _), (12, _), (13, _)] ?_
 refine xD [0, 1, 2, 3, 4, 5, 6, 7] [1] ?_
 refine s2 ?_
 refine dCB rfl (fun w hw => at_m w) ?_
 refine dP rfl (rp_buildC (fun us => [us.getD 0 undef, .int .i64 0, us.getD 1 undef]) rfl rfl (fun w => by kernel_rfl)) ?_
 refine dW rfl (ow_sliceC (vs := [_, _, _, _]) (ty := 43) rfl rfl (by rfl) rfl rfl (fun _ => by kernel_rfl)) (fun b63 hb63 => ?_)
 refine dW rfl (oAppG (sl := 35) ET [⟨0, 0, 0, 0⟩] [⟨1, 0, 19660800, -196608000⟩] (fun w hw => cell_arr ET [⟨1, 0, 19660800, -196608000⟩] (hw.ok (cellB b63 [.int .i64 1, .int .i64 0, .int .i64 19660800, .int .i64 (-196608000)] 43) (by repeat constructor)).1 rfl (by decide)) rfl (Nat.le_refl _) (hl := by decide)) (fun t64 _ => ?_)
 obtain ⟨g64, c64⟩ := t64
 dsimp only [List.cons_append, List.nil_append]
 refine s5 ?_
 refine kJ [(3, _), (5, _), (6, _), (7, _), (8, _), (9, _), (10, _), (11, _), (12, _), (13, _)] ?_
 refine s4 ?_
 refine aW (oR (fun w hw => aw_3 (own_arr (A := some ⟨b33, 0, none⟩) (c := 1) (ty := 43) (L := awL) ET hw (by repeat constructor) (by decide)) (own_arr (A := some ⟨g64, 0, none⟩) (c := c64) (ty := 43) (L := awN) ET hw (by repeat constructor) (by decide)))) (fun t70 ht70 => ?_)
 obtain ⟨A70, c70, L70⟩ := t70
 dsimp only [ocI, List.cons_append, List.nil_append]
 obtain ⟨hm70, hn70⟩ := ht70
 dsimp only at hm70 hn70
 have hl70 : L70.length = 2 := by rw [← aw_o3, ← hm70, List.length_map]
 refine s3 ?_
 refine aW oA (fun b14 hb14 => ?_)
 refine s5 ?_
 refine J_fact (fun hw => ?_)
 obtain ⟨g49, rfl⟩ := own_some hw (ty := 82) (k := 2) (m := 1) (c := c49) (A := A49) (by repeat constructor) (by omega)
 clear hw
 obtain ⟨hxn49, hxl49⟩ := hn49 _ (List.mem_singleton.2 rfl)
 dsimp only at hxn49 hxl49
 subst hxn49
 have hx49 : xl49 = awL := by
  have e := List.head_eq_of_cons_eq hm49
  unfold oP at e
  rw [← srt_awL]
  exact (Prod.mk.inj e).1
 refine kJ [(5, _), (6, _), (7, _), (8, _), (10, _), (11, _), (12, _), (13, _), (14, _), (15, _)] ?_
 refine s4 ?_
 refine aDecT ?_ rfl
 refine s4 ?_
 refine aDecT ?_ rfl
 refine s4 ?_
 refine aDecT ?_ rfl
 refine s5 ?_
 refine aDecT ?_ rfl
 refine s6 ?_
 refine aDecT ?_ rfl
 refine s4 ?_
 refine aP (pIdxI (0) rfl rfl rfl rfl Nat.zero_lt_one) ?_
 refine s1 ?_
 refine aV (vOwn EO (v := .slice xA49 xl49.length xk49) (L := [(⟨⟨xA49, xl49.length, xk49, xl49⟩, xg49⟩ : Oc)]) (j := 0) (i := 0) rfl rfl (by repeat constructor) Nat.zero_lt_one (by decide) rfl) ?_
 refine s1 ?_
 refine aCB (fun w hw => refSame xl49 awL _ _ w (oc_arr (p := ⟨⟨xA49, xl49.length, xk49, xl49⟩, xg49⟩) (L := [(⟨⟨xA49, xl49.length, xk49, xl49⟩, xg49⟩ : Oc)]) (hw.ok (grpB [rwB (⟨⟨xA49, xl49.length, xk49, xl49⟩, xg49⟩ : Oc)]) (by repeat constructor)).1 (List.mem_singleton.2 rfl) rfl hxl49) (own_arr (A := some ⟨b33, 0, none⟩) (c := 1) (ty := 43) (L := awL) ET hw (by repeat constructor) (by decide))) ?_
 refine aDecT ?_ hx49
 refine s4 ?_
 refine aDecT ?_ rfl
 refine s5 ?_
 refine kJ [(12, _), (13, _), (14, _), (15, _), (16, _)] ?_
 refine s6 ?_
 refine aDecT ?_ rfl
 refine s5 ?_
 refine aDecT ?_ rfl
 refine s4 ?_
 refine aDecT ?_ rfl
 refine s5 ?_
 refine aDecT ?_ rfl
 refine s5 ?_
 refine aDecT ?_ rfl
 refine s6 ?_
 refine aDecT ?_ (by rw [hl70]; rfl)
 refine s4 ?_
 refine aDecT ?_ rfl
 refine s5 ?_
 refine JR_one rfl (rr_tmp rfl) ?_
 intro w' hw
 exact ⟨rfl, hw.bel⟩
theorem New_grp (c : Cd) (first power : Int) (w : World) (hg : goodR c first power = 0) : Calls Tryz.prog 7 #[Cdv c, .int .i64 first, .int .i64 power] w (Ret w (fun t : Nat × EnM => EnP (newE c first power) t.2) (fun t => .tuple #[.pointer (some ⟨t.1, 0, none⟩), .int .i64 0]) (fun t => [grpB (endI t.1 t.2)])) := (New_any c first power w).mono (fun _ _ h => by
 unfold RetNew at h
 rw [if_pos hg] at h
 obtain ⟨t, h1, h2, h3⟩ := h
 exact ⟨t, h1, h2, h3.close (HA := endI t.1 t.2) (H1 := []) (by rw [List.append_nil]; exact Pk.refl _) (endI_nro _ _)⟩)
end Go.Proofs.YtomcpgdpjpjioaaGreat
/- Operations on bytes; a fact in a drawn region. Over any program. -/
namespace Go.Proofs.YtomcpgdpjpjioaaGreat
open Go Go.RowKit Go.Proofs Go.Shelf
theorem JD_fact {ord : List Nat} {P : Program} {n : Nat} {B : Bs} {ops : Array Oper} {Q : Exit → Act → World → Prop} {ld : List Nat} {H0 : List It} {lx : List Nat} {Hx : List It} {fuel : Nat} {listed : Array Bool} {l : Sl} {H : List It} (h : (∃ w, Wd B H w) → JD ord P n B ops Q ld H0 lx Hx fuel listed l H) : JD ord P n B ops Q ld H0 lx Hx fuel listed l H := by
 unfold JD at h ⊢; exact JA_fact h
section
variable {P : Program} {n : Nat} {l : Sl} {o : Oper} {x y : Operand} {t ty : TypeId}
theorem pEqlK {k : IntKind} {a b : Int} (ho : o.op = .binOp .eql t x y ty) (hx : evl l x = some (.int k a)) (hy : evl l y = some (.int k b)) : RP P n l o (.bool (decide (a = b))) := rp2 hx hy (fun _ h1 h2 _ => by
 have e : decide (a = b) = (a == b) := by by_cases h : a = b <;> simp [h]
 rw [e]; exact ex_cmpK rfl ho h1 h2 (fun _ => rfl))
theorem pConv8 {s d : TypeId} {a : Int} [us : Und P s (.int .u8)] [ud : Und P d (.int .i64)] (ho : o.op = .convert s d x) (hx : evl l x = some (.int .u8 a)) (ha : U8 a) : RP P n l o (.int .i64 a) := rp1 hx (fun _ h1 _ => ex_conv8 ho h1 ha)
theorem pNeqB {a b : Bool} [u : Und P t .bool] (ho : o.op = .binOp .neq t x y ty) (hx : evl l x = some (.bool a)) (hy : evl l y = some (.bool b)) : RP P n l o (.bool (decide (a ≠ b))) := rp2 hx hy (fun ρ h1 h2 w => by
 have e : decide (a ≠ b) = !(a == b) := by cases a <;> cases b <;> rfl
 rw [e]
 unfold execOp
 simp only [ho, h1, h2]
 have hu := u.h
 go_simp)
theorem pRem8 {a b : Int} (ho : o.op = .binOp .rem t x y ty) (hx : evl l x = some (.int .u8 a)) (hy : evl l y = some (.int .u8 b)) (ha : U8 a) (hb : 0 < b ∧ b ≤ 255) : RP P n l o (.int .u8 (a % b)) := rp2 hx hy (fun ρ h1 h2 w => by
 unfold U8 at ha
 have hb0 : ¬ b = 0 := by omega
 have h3 : a.tmod b = a % b := Int.tmod_eq_emod_of_nonneg ha.1
 unfold execOp
 simp only [ho, h1, h2]
 go_simp)
end
end Go.Proofs.YtomcpgdpjpjioaaGreat
/- Parameters of the laws: what their reading gives, and that they are read again as they were. -/
namespace Go.Proofs.YtomcpgdpjpjioaaGreat
open Go.ChangeShapes Go.WideShapes Go.ChangeAt Go.RowKit
theorem u8_of {u : Int} (h : (Lit.int .u8 u).wf = true) : U8 u := by
 unfold U8
 have h2 : (decide ((0 : Int) ≤ u) && decide (u ≤ 255)) = true := h
 rw [Bool.and_eq_true] at h2
 exact ⟨of_decide_eq_true h2.1, of_decide_eq_true h2.2⟩
section
variable {H : Type} {enc : TypeId × Value → H}
set_option maxRecDepth 100000
theorem el_int : ElC Tryz.prog enc 3 (fun _ cs => ∃ x, cs = [.int .i64 x] ∧ (Lit.int .i64 x).wf = true) := elInt Tryz.underlying3
theorem el_u8 : ElC Tryz.prog enc 5 (fun _ cs => ∃ x, cs = [.int .u8 x] ∧ (Lit.int .u8 x).wf = true) := elInt Tryz.underlying5
theorem el_bool : ElC Tryz.prog enc 4 (fun _ cs => ∃ x, cs = [.bool x]) := elBool Tryz.underlying4
theorem el_fix : ElC Tryz.prog enc 39 (fun _ cs => ∃ x, cs = [.int .i64 x] ∧ (Lit.int .i64 x).wf = true) := elInt Tryz.underlying39
theorem fld {fs : Array Field} {Rs : Nat → World → List Value → Prop} {W : World} {cs : List Value} (h : ∀ (i : Nat) (f : Field), fs[i]? = some f → Rs i W ((cs.drop f.offset).take (Tryz.prog.cellsOf f.type))) (i : Nat) {f : Field} (hf : fs[i]? = some f) {n : Nat} (hn : Tryz.prog.cellsOf f.type = n) {c : List Value} (hc : (cs.drop f.offset).take n = c) : Rs i W c := by
 have := h i f hf; rw [hn, hc] at this; exact this
def codeR (i : Nat) (_ : World) (cs : List Value) : Prop := match i with
 | 0 => ∃ x, cs = [.int .i64 x] ∧ (Lit.int .i64 x).wf = true
 | 1 => ∃ x, cs = [.int .i64 x] ∧ (Lit.int .i64 x).wf = true
 | 2 => ∃ x, cs = [.int .i64 x] ∧ (Lit.int .i64 x).wf = true
 | 3 => ∃ x, cs = [.int .i64 x] ∧ (Lit.int .i64 x).wf = true
 | 4 => ∃ x, cs = [.bool x]
 | _ => True
theorem el_code : ElC Tryz.prog enc 23 (fun _ cs => ∃ c : Cd, cs = [.int .i64 c.f, .int .i64 c.t, .int .i64 c.s, .int .i64 c.e, .bool c.p]) := by
 refine (elStruct (Rs := codeR) Tryz.underlying23 (fun i f hi => ?_)).imp fun _ cs ⟨hl, h⟩ => ?_
 ·rcases i with _ | _ | _ | _ | _ | i
  ·obtain rfl := Option.some.inj hi; exact el_int
  ·obtain rfl := Option.some.inj hi; exact el_int
  ·obtain rfl := Option.some.inj hi; exact el_int
  ·obtain rfl := Option.some.inj hi; exact el_int
  ·obtain rfl := Option.some.inj hi; exact el_bool
  ·cases hi
 ·rw [show Tryz.prog.cellsOf 23 = 5 by kernel_rfl] at hl
  obtain ⟨c_0, c_1, c_2, c_3, c_4, rfl⟩ : ∃ c_0 c_1 c_2 c_3 c_4, cs = [c_0, c_1, c_2, c_3, c_4] := by
   match cs, hl with
   | [c_0, c_1, c_2, c_3, c_4], _ => exact ⟨_, _, _, _, _, rfl⟩
  have f0 := fld (c := [c_0]) h 0 rfl (show Tryz.prog.cellsOf _ = 1 by kernel_rfl) rfl
  have f1 := fld (c := [c_1]) h 1 rfl (show Tryz.prog.cellsOf _ = 1 by kernel_rfl) rfl
  have f2 := fld (c := [c_2]) h 2 rfl (show Tryz.prog.cellsOf _ = 1 by kernel_rfl) rfl
  have f3 := fld (c := [c_3]) h 3 rfl (show Tryz.prog.cellsOf _ = 1 by kernel_rfl) rfl
  have f4 := fld (c := [c_4]) h 4 rfl (show Tryz.prog.cellsOf _ = 1 by kernel_rfl) rfl
  obtain ⟨x0, e0, -⟩ := f0
  obtain rfl := (List.cons.inj e0).1
  obtain ⟨x1, e1, -⟩ := f1
  obtain rfl := (List.cons.inj e1).1
  obtain ⟨x2, e2, -⟩ := f2
  obtain rfl := (List.cons.inj e2).1
  obtain ⟨x3, e3, -⟩ := f3
  obtain rfl := (List.cons.inj e3).1
  obtain ⟨x4, e4⟩ := f4
  obtain rfl := (List.cons.inj e4).1
  exact ⟨⟨x0, x1, x2, x3, x4⟩, rfl⟩
def spotR (i : Nat) (_ : World) (cs : List Value) : Prop := match i with
 | 0 => ∃ x, cs = [.int .i64 x] ∧ (Lit.int .i64 x).wf = true
 | 1 => ∃ x, cs = [.int .i64 x] ∧ (Lit.int .i64 x).wf = true
 | _ => True
theorem el_spot : ElC Tryz.prog enc 41 (fun _ cs => ∃ p : Int × Int, cs = eP p) := by
 refine (elStruct (Rs := spotR) Tryz.underlying41 (fun i f hi => ?_)).imp fun _ cs ⟨hl, h⟩ => ?_
 ·rcases i with _ | _ | i
  ·obtain rfl := Option.some.inj hi; exact el_fix
  ·obtain rfl := Option.some.inj hi; exact el_fix
  ·cases hi
 ·rw [show Tryz.prog.cellsOf 41 = 2 by kernel_rfl] at hl
  obtain ⟨c_0, c_1, rfl⟩ : ∃ c_0 c_1, cs = [c_0, c_1] := by
   match cs, hl with
   | [c_0, c_1], _ => exact ⟨_, _, rfl⟩
  have f0 := fld (c := [c_0]) h 0 rfl (show Tryz.prog.cellsOf _ = 1 by kernel_rfl) rfl
  have f1 := fld (c := [c_1]) h 1 rfl (show Tryz.prog.cellsOf _ = 1 by kernel_rfl) rfl
  obtain ⟨x0, e0, -⟩ := f0
  obtain rfl := (List.cons.inj e0).1
  obtain ⟨x1, e1, -⟩ := f1
  obtain rfl := (List.cons.inj e1).1
  exact ⟨(x0, x1), rfl⟩
def stoneR (i : Nat) (_ : World) (cs : List Value) : Prop := match i with
 | 0 => ∃ x, cs = [.int .i64 x] ∧ (Lit.int .i64 x).wf = true
 | 1 => ∃ x, cs = [.int .i64 x] ∧ (Lit.int .i64 x).wf = true
 | 2 => ∃ p : Int × Int, cs = eP p
 | _ => True
theorem el_stone : ElC Tryz.prog enc 43 (fun _ cs => ∃ s : St, cs = eT s) := by
 refine (elStruct (Rs := stoneR) Tryz.underlying43 (fun i f hi => ?_)).imp fun _ cs ⟨hl, h⟩ => ?_
 ·rcases i with _ | _ | _ | i
  ·obtain rfl := Option.some.inj hi; exact el_int
  ·obtain rfl := Option.some.inj hi; exact el_int
  ·obtain rfl := Option.some.inj hi; exact el_spot
  ·cases hi
 ·rw [show Tryz.prog.cellsOf 43 = 4 by kernel_rfl] at hl
  obtain ⟨c_0, c_1, c_2, c_3, rfl⟩ : ∃ c_0 c_1 c_2 c_3, cs = [c_0, c_1, c_2, c_3] := by
   match cs, hl with
   | [c_0, c_1, c_2, c_3], _ => exact ⟨_, _, _, _, rfl⟩
  have f0 := fld (c := [c_0]) h 0 rfl (show Tryz.prog.cellsOf _ = 1 by kernel_rfl) rfl
  have f1 := fld (c := [c_1]) h 1 rfl (show Tryz.prog.cellsOf _ = 1 by kernel_rfl) rfl
  have f2 := fld (c := [c_2, c_3]) h 2 rfl (show Tryz.prog.cellsOf _ = 2 by kernel_rfl) rfl
  obtain ⟨x0, e0, -⟩ := f0
  obtain rfl := (List.cons.inj e0).1
  obtain ⟨x1, e1, -⟩ := f1
  obtain rfl := (List.cons.inj e1).1
  obtain ⟨⟨px, py⟩, e2⟩ := f2
  obtain ⟨rfl, e3⟩ := List.cons.inj e2
  obtain rfl := (List.cons.inj e3).1
  exact ⟨⟨x0, x1, px, py⟩, rfl⟩
theorem el_stones : ElC Tryz.prog enc 35 (fun W cs => ∃ p : Dv St, cs = [p.v] ∧ Arr 4 eT W p.v p.l ∧ p.n = p.l.length) :=
 (elRow (wf := fun _ _ => True) Tryz.underlying35 (by kernel_rfl) ET (by decide) (el_stone.imp fun _ _ ⟨x, h⟩ => ⟨x, h, trivial⟩)).imp fun _ _ ⟨p, h1, h2, h3, _⟩ => ⟨p, h1, h2, h3⟩
def throwR (i : Nat) (W : World) (cs : List Value) : Prop := match i with
 | 0 => ∃ x, cs = [.int .i64 x] ∧ (Lit.int .i64 x).wf = true
 | 1 => ∃ x, cs = [.int .i64 x] ∧ (Lit.int .i64 x).wf = true
 | 2 => ∃ x, cs = [.bool x]
 | 3 => ∃ x, cs = [.bool x]
 | 4 => ∃ x, cs = [.int .i64 x] ∧ (Lit.int .i64 x).wf = true
 | 5 => ∃ p : Dv St, cs = [p.v] ∧ Arr 4 eT W p.v p.l ∧ p.n = p.l.length
 | _ => True
theorem el_throw : ElC Tryz.prog enc 38 (fun W cs => ∃ (x : Th) (d : Dv St), cs = [.int .i64 x.team, .int .i64 x.n, .bool x.late, .bool x.short, .int .i64 x.how, d.v] ∧ Arr 4 eT W d.v d.l ∧ d.n = d.l.length) := by
 refine (elStruct (Rs := throwR) Tryz.underlying38 (fun i f hi => ?_)).imp fun W cs ⟨hl, h⟩ => ?_
 ·rcases i with _ | _ | _ | _ | _ | _ | i
  ·obtain rfl := Option.some.inj hi; exact el_int
  ·obtain rfl := Option.some.inj hi; exact el_int
  ·obtain rfl := Option.some.inj hi; exact el_bool
  ·obtain rfl := Option.some.inj hi; exact el_bool
  ·obtain rfl := Option.some.inj hi; exact el_int
  ·obtain rfl := Option.some.inj hi; exact el_stones
  ·cases hi
 ·rw [show Tryz.prog.cellsOf 38 = 6 by kernel_rfl] at hl
  obtain ⟨c_0, c_1, c_2, c_3, c_4, c_5, rfl⟩ : ∃ c_0 c_1 c_2 c_3 c_4 c_5, cs = [c_0, c_1, c_2, c_3, c_4, c_5] := by
   match cs, hl with
   | [c_0, c_1, c_2, c_3, c_4, c_5], _ => exact ⟨_, _, _, _, _, _, rfl⟩
  have f0 := fld (c := [c_0]) h 0 rfl (show Tryz.prog.cellsOf _ = 1 by kernel_rfl) rfl
  have f1 := fld (c := [c_1]) h 1 rfl (show Tryz.prog.cellsOf _ = 1 by kernel_rfl) rfl
  have f2 := fld (c := [c_2]) h 2 rfl (show Tryz.prog.cellsOf _ = 1 by kernel_rfl) rfl
  have f3 := fld (c := [c_3]) h 3 rfl (show Tryz.prog.cellsOf _ = 1 by kernel_rfl) rfl
  have f4 := fld (c := [c_4]) h 4 rfl (show Tryz.prog.cellsOf _ = 1 by kernel_rfl) rfl
  have f5 := fld (c := [c_5]) h 5 rfl (show Tryz.prog.cellsOf _ = 1 by kernel_rfl) rfl
  obtain ⟨x0, e0, -⟩ := f0
  obtain rfl := (List.cons.inj e0).1
  obtain ⟨x1, e1, -⟩ := f1
  obtain rfl := (List.cons.inj e1).1
  obtain ⟨x2, e2⟩ := f2
  obtain rfl := (List.cons.inj e2).1
  obtain ⟨x3, e3⟩ := f3
  obtain rfl := (List.cons.inj e3).1
  obtain ⟨x4, e4, -⟩ := f4
  obtain rfl := (List.cons.inj e4).1
  obtain ⟨d, e5, h5, h6⟩ := f5
  obtain rfl := (List.cons.inj e5).1
  exact ⟨⟨x0, x1, x2, x3, x4⟩, d, rfl, h5, h6⟩
def actR (i : Nat) (W : World) (cs : List Value) : Prop := match i with
 | 0 => ∃ x, cs = [.int .i64 x] ∧ (Lit.int .i64 x).wf = true
 | 1 => ∃ x, cs = [.int .i64 x] ∧ (Lit.int .i64 x).wf = true
 | 2 => ∃ (x : Th) (d : Dv St), cs = [.int .i64 x.team, .int .i64 x.n, .bool x.late, .bool x.short, .int .i64 x.how, d.v] ∧ Arr 4 eT W d.v d.l ∧ d.n = d.l.length
 | _ => True
theorem el_act : ElC Tryz.prog enc 59 (fun W cs => ∃ p : Ac, cs = eAc p ∧ AcW W p) := by
 refine (elStruct (Rs := actR) Tryz.underlying59 (fun i f hi => ?_)).imp fun W cs ⟨hl, h⟩ => ?_
 ·rcases i with _ | _ | _ | i
  ·obtain rfl := Option.some.inj hi; exact el_int
  ·obtain rfl := Option.some.inj hi; exact el_int
  ·obtain rfl := Option.some.inj hi; exact el_throw
  ·cases hi
 ·rw [show Tryz.prog.cellsOf 59 = 8 by kernel_rfl] at hl
  obtain ⟨c_0, c_1, c_2, c_3, c_4, c_5, c_6, c_7, rfl⟩ : ∃ c_0 c_1 c_2 c_3 c_4 c_5 c_6 c_7, cs = [c_0, c_1, c_2, c_3, c_4, c_5, c_6, c_7] := by
   match cs, hl with
   | [c_0, c_1, c_2, c_3, c_4, c_5, c_6, c_7], _ => exact ⟨_, _, _, _, _, _, _, _, rfl⟩
  have f0 := fld (c := [c_0]) h 0 rfl (show Tryz.prog.cellsOf _ = 1 by kernel_rfl) rfl
  have f1 := fld (c := [c_1]) h 1 rfl (show Tryz.prog.cellsOf _ = 1 by kernel_rfl) rfl
  have f2 := fld (c := [c_2, c_3, c_4, c_5, c_6, c_7]) h 2 rfl (show Tryz.prog.cellsOf _ = 6 by kernel_rfl) rfl
  obtain ⟨x0, e0, -⟩ := f0
  obtain rfl := (List.cons.inj e0).1
  obtain ⟨x1, e1, -⟩ := f1
  obtain rfl := (List.cons.inj e1).1
  obtain ⟨x, d, e2, h5, h6⟩ := f2
  obtain ⟨rfl, e3⟩ := List.cons.inj e2
  obtain ⟨rfl, e4⟩ := List.cons.inj e3
  obtain ⟨rfl, e5⟩ := List.cons.inj e4
  obtain ⟨rfl, e6⟩ := List.cons.inj e5
  obtain ⟨rfl, e7⟩ := List.cons.inj e6
  obtain rfl := (List.cons.inj e7).1
  exact ⟨⟨x0, x1, x, d⟩, rfl, h5, h6⟩
theorem el_acts : ElC Tryz.prog enc 52 (fun W cs => ∃ p : Dv Ac, cs = [p.v] ∧ Arr 8 eAc W p.v p.l ∧ p.n = p.l.length ∧ ∀ x ∈ p.l, AcW W x) := elRow (wf := AcW) Tryz.underlying52 (by kernel_rfl) EAc (by decide) el_act
theorem el_how : ElC Tryz.prog enc 24 (fun W cs => ∃ p : Dv Int, cs = [p.v] ∧ Arr 1 eU W p.v p.l ∧ p.n = p.l.length ∧ ∀ x ∈ p.l, U8 x) :=
 (elRow (wf := fun _ x => U8 x) Tryz.underlying24 (by kernel_rfl) EU (by decide) (el_u8.imp fun _ _ ⟨x, h, h2⟩ => ⟨x, h, u8_of h2⟩))
theorem el_places : ElC Tryz.prog enc 25 (fun W cs => ∃ p : Dv (Int × Int), cs = [p.v] ∧ Arr 2 eP W p.v p.l ∧ p.n = p.l.length) :=
 (elRow (wf := fun _ _ => True) Tryz.underlying25 (by kernel_rfl) EP (by decide) (el_spot.imp fun _ _ ⟨x, h⟩ => ⟨x, h, trivial⟩)).imp fun _ _ ⟨p, h1, h2, h3, _⟩ => ⟨p, h1, h2, h3⟩
/-- A parameter's reading again, behind the call. -/
abbrev Again (W : World) (t : TypeId) (v : Value) (d : DataW H) (p : List MemPlace) (enc : TypeId × Value → H) : Prop := ∀ W' : World, Below W.heap.size W W' → ∀ sp : Nat → Bool, (∀ q ∈ p, sp q.block = true) → DataW.Trod enc Tryz.prog W' 0 sp true t v d p
variable {W : World} {base : Nat} {v : Value} {d : DataW H} {p : List MemPlace}
theorem open_num (hv : Value.okWide Tryz.prog W .any base 3 v) (h : DataW.Trod enc Tryz.prog W 0 (fun _ => true) true 3 v d p) : ∃ x : Int, v = .int .i64 x ∧ Again W 3 v d p enc := by
 obtain ⟨a, rfl⟩ := okWide_int Tryz.underlying3 hv
 exact ⟨_, rfl, (el_int.trod h).2⟩
theorem open_code (hv : Value.okWide Tryz.prog W .any base 23 v) (h : DataW.Trod enc Tryz.prog W 0 (fun _ => true) true 23 v d p) : ∃ c : Cd, v = Cdv c ∧ Again W 23 v d p enc := by
 obtain ⟨cs, rfl, -⟩ := okWide_struct Tryz.underlying23 hv
 obtain ⟨⟨c, e⟩, h3⟩ := el_code.trod h
 have e' : cs.toList = [.int .i64 c.f, .int .i64 c.t, .int .i64 c.s, .int .i64 c.e, .bool c.p] := e
 exact ⟨c, by rw [show cs = [Value.int .i64 c.f, .int .i64 c.t, .int .i64 c.s, .int .i64 c.e, .bool c.p].toArray by rw [← e']], h3⟩
theorem open_acts (hv : Value.okWide Tryz.prog W .any base 52 v) (h : DataW.Trod enc Tryz.prog W 0 (fun _ => true) true 52 v d p) : ∃ (A : Option Addr) (l : List Ac) (c : Nat), v = .slice A l.length c ∧ Arr 8 eAc W (.slice A l.length c) l ∧ (∀ x ∈ l, AcW W x) ∧ Again W 52 v d p enc := by
 obtain ⟨a, n, k, rfl⟩ := okWide_slice Tryz.underlying52 hv
 obtain ⟨⟨⟨A, m, c, l⟩, e, h1, hn, h2⟩, h3⟩ := el_acts.trod h
 obtain ⟨rfl, rfl, rfl⟩ : a = A ∧ n = m ∧ k = c := by simpa [Value.cells] using e
 dsimp only at hn; subst hn
 exact ⟨_, l, _, rfl, h1, h2, h3⟩
theorem open_how (hv : Value.okWide Tryz.prog W .any base 24 v) (h : DataW.Trod enc Tryz.prog W 0 (fun _ => true) true 24 v d p) : ∃ (A : Option Addr) (l : List Int) (c : Nat), v = .slice A l.length c ∧ Arr 1 eU W (.slice A l.length c) l ∧ (∀ x ∈ l, U8 x) ∧ Again W 24 v d p enc := by
 obtain ⟨a, n, k, rfl⟩ := okWide_slice Tryz.underlying24 hv
 obtain ⟨⟨⟨A, m, c, l⟩, e, h1, hn, h2⟩, h3⟩ := el_how.trod h
 obtain ⟨rfl, rfl, rfl⟩ : a = A ∧ n = m ∧ k = c := by simpa [Value.cells] using e
 dsimp only at hn; subst hn
 exact ⟨_, l, _, rfl, h1, h2, h3⟩
theorem open_places (hv : Value.okWide Tryz.prog W .any base 25 v) (h : DataW.Trod enc Tryz.prog W 0 (fun _ => true) true 25 v d p) : ∃ (A : Option Addr) (l : List (Int × Int)) (c : Nat), v = .slice A l.length c ∧ Arr 2 eP W (.slice A l.length c) l ∧ Again W 25 v d p enc := by
 obtain ⟨a, n, k, rfl⟩ := okWide_slice Tryz.underlying25 hv
 obtain ⟨⟨⟨A, m, c, l⟩, e, h1, hn⟩, h3⟩ := el_places.trod h
 obtain ⟨rfl, rfl, rfl⟩ : a = A ∧ n = m ∧ k = c := by simpa [Value.cells] using e
 dsimp only at hn; subst hn
 exact ⟨_, l, _, rfl, h1, h3⟩
end
end Go.Proofs.YtomcpgdpjpjioaaGreat
/- Layer 7: the document's end as one view; alike. -/
namespace Go.Proofs.YtomcpgdpjpjioaaGreat
open Go Go.RowKit Go.Proofs
attribute [local irreducible] J JQ JL JA JD

/-- What the document's end reads. -/
abbrev rfU (e : RfM) : It := roU (rfJ e)
abbrev rfuC (e : RfM) : List Value := [.int .i64 e.c.f, .int .i64 e.c.t, .int .i64 e.c.s, .int .i64 e.c.e, .bool e.c.p, .int .i64 e.fr, .slice e.A e.l.length e.k, .int .i64 e.tn, .bool e.pn, .int .i64 e.r, .int .i64 e.h, .slice e.t.A e.t.L.length e.t.c]
theorem rfu_W {w : World} {e : RfM} (h : (rfU e).holds w) : RfW w e :=
 ⟨h (slsB 4 eT [⟨e.A, e.l.length, e.k, e.l⟩]) (by simp) _ (List.mem_singleton.2 rfl), h (slsB 2 eO [⟨e.t.A, e.t.L.length, e.t.c, e.t.L⟩]) (by simp) _ (List.mem_singleton.2 rfl), fun p hp => h (slsB 4 eT (e.t.L.map (·.d))) (by simp) _ (List.mem_map.2 ⟨p, hp, rfl⟩)⟩
theorem W_rfu {w : World} {e : RfM} (h : RfW w e) : (rfU e).holds w := fun A hA => by
 simp only [List.mem_cons, List.not_mem_nil, or_false] at hA
 rcases hA with rfl | rfl | rfl
 ·intro p hp; rw [List.mem_singleton.1 hp]; exact h.row
 ·intro p hp; rw [List.mem_singleton.1 hp]; exact h.out
 ·intro p hp
  obtain ⟨o, ho, rfl⟩ := List.mem_map.1 hp
  exact h.oc o ho
/-- In which blocks it lies. -/
theorem rfu_ft {e : RfM} {b : Nat} (h : (rfU e).foot b) : (∃ o, e.A = some ⟨b, o, none⟩ ∧ e.l ≠ []) ∨ (∃ o, e.t.A = some ⟨b, o, none⟩ ∧ e.t.L ≠ []) ∨ ∃ p ∈ e.t.L, p.d.l ≠ [] ∧ ∃ o, p.d.A = some ⟨b, o, none⟩ := by
 obtain ⟨A, hA, hb⟩ := h
 simp only [List.mem_cons, List.not_mem_nil, or_false] at hA
 rcases hA with rfl | rfl | rfl
 ·obtain ⟨p, hp, hne, o, ho⟩ := hb
  rw [List.mem_singleton.1 hp] at hne ho
  exact .inl ⟨o, ho, hne⟩
 ·obtain ⟨p, hp, hne, o, ho⟩ := hb
  rw [List.mem_singleton.1 hp] at hne ho
  exact .inr (.inl ⟨o, ho, hne⟩)
 ·obtain ⟨p, hp, hne, o, ho⟩ := hb
  obtain ⟨q, hq, rfl⟩ := List.mem_map.1 hp
  exact .inr (.inr ⟨q, hq, hne, o, ho⟩)
theorem rfu_row {e : RfM} {b o : Nat} (h : e.A = some ⟨b, o, none⟩) (hl : e.l ≠ []) : (rfU e).foot b := ⟨slsB 4 eT [⟨e.A, e.l.length, e.k, e.l⟩], by simp, _, List.mem_singleton.2 rfl, hl, o, h⟩
theorem rfu_oc {e : RfM} {b o : Nat} {p : Oc} (hp : p ∈ e.t.L) (h : p.d.A = some ⟨b, o, none⟩) (hl : p.d.l ≠ []) : (rfU e).foot b := ⟨slsB 4 eT (e.t.L.map (·.d)), by simp, _, List.mem_map.2 ⟨p, hp, rfl⟩, hl, o, h⟩
theorem own_ft {ty k m c b o : Nat} {A : Option Addr} {xs : List Value} (h : A = some ⟨b, o, none⟩) : (ownB ty k A m c xs).foot b := by
 show (Value.slice A m c).ownBlock = some b
 rw [h]; rfl
section
variable {B : Bs} {H H1 : List It} {w : World} {e : RfM}
/-- The end as it begins. -/
theorem new_rfu (hw : Wd B H w) (hk : Pk (ownB 43 4 e.A e.l.length e.k (e.l.flatMap eT) :: H1) H) (hl : e.l.length ≤ 1000) (h0 : e.t = oc0) : Wd B (rfU e :: H1) w := by
 refine hw.viewU (rows := [ownB 43 4 e.A e.l.length e.k (e.l.flatMap eT)]) hk rfl (W_rfu (new_W hw (hk.sub _ List.mem_cons_self) hl h0)) (fun b hb => ?_)
 rcases rfu_ft hb with ⟨o, h, -⟩ | ⟨o, h, -⟩ | ⟨p, hp, -⟩
 ·exact ⟨_, List.mem_singleton.2 rfl, own_ft h⟩
 ·rw [h0] at h; cases h
 ·rw [h0] at hp; cases hp
theorem took_rfu (hw : Wd B H w) (hk : Pk (rfU e :: H1) H) (hn : ∀ p ∈ e.t.L, p.d.n = p.d.l.length ∧ p.d.l.length ≤ 16) {o : Oc} (ho : o ∈ e.t.L) : Wd B (rfU (tookR e o) :: H1) w := by
 refine hw.viewU (rows := [rfU e]) hk rfl (W_rfu (took_W (rfu_W (hw.ok _ (hk.sub _ List.mem_cons_self)).1) hn ho)) (fun b hb => ?_)
 rcases rfu_ft hb with ⟨q, h, h2⟩ | ⟨q, h, -⟩ | ⟨p, hp, -⟩
 ·exact ⟨_, List.mem_singleton.2 rfl, rfu_oc ho h h2⟩
 ·cases h
 ·cases hp
theorem thr_rfu {r h : Int} {t : OcT} (hw : Wd B H w) (hk : Pk (rfU e :: ownB 82 2 t.A t.L.length t.c (t.L.flatMap eO) :: grpB (t.L.map rwB) :: H1) H) (hn : ∀ p ∈ t.L, p.d.n = p.d.l.length ∧ p.d.l.length ≤ 16) (hl : t.L.length ≤ 1000) : Wd B (rfU (thrM e r h t) :: H1) w := by
 have h0 := hw.pick hk
 have hO : ∀ A ∈ ocI t, A.holds w := fun A hA => by
  simp only [List.mem_cons, List.not_mem_nil, or_false] at hA
  rcases hA with rfl | rfl
  ·exact (h0.ok _ (by simp)).1
  ·exact (h0.ok _ (by simp)).1
 refine hw.viewU (rows := rfU e :: ocI t) hk rfl (W_rfu (thr_W (rfu_W (h0.ok (rfU e) List.mem_cons_self).1) hO hn hl)) (fun b hb => ?_)
 have gf : ∀ (p : Oc) (q : Nat), p ∈ t.L → p.d.A = some ⟨b, q, none⟩ → ∃ A ∈ rfU e :: ocI t, A.foot b := fun p q hp hq => ⟨grpB (t.L.map rwB), by simp, rwB p, List.mem_map.2 ⟨p, hp, rfl⟩, own_ft hq⟩
 obtain ⟨tA, tc, tL⟩ := t
 by_cases e1 : tL.length = 1
 ·obtain ⟨o, rfl⟩ := List.length_eq_one_iff.1 e1
  rw [thrM_one] at hb
  rcases rfu_ft hb with ⟨q, h, -⟩ | ⟨q, h, -⟩ | ⟨p, hp, -⟩
  ·exact gf o q (List.mem_singleton.2 rfl) h
  ·cases h
  ·cases hp
 ·rw [thrM_many e1] at hb
  rcases rfu_ft hb with ⟨q, h, h2⟩ | ⟨q, h, -⟩ | ⟨p, hp, -, q, h⟩
  ·exact ⟨rfU e, List.mem_cons_self, rfu_row h h2⟩
  ·exact ⟨ownB 82 2 tA tL.length tc (tL.flatMap eO), by simp, own_ft h⟩
  ·exact gf p q hp h
end
theorem thr_c (E : En) (m : List St) (x : Th) : (thrN E m x).c = E.c := by unfold thrN; split <;> rfl
theorem chs_c (E : En) (i : Int) : (chsN E i).c = E.c := by unfold chsN; split <;> rfl

theorem alike_any (b : Nat) (e : EnM) (e2 : RfM) (w : World) (h : ∀ A ∈ endI b e, A.holds w) (hok : EnOk e.pl) (hn : ∀ m, e.p = some m → ∀ p ∈ m.t.L, p.d.n = p.d.l.length ∧ p.d.l.length ≤ 16) (hP : RfP e.pl e2) (hW : (rfU e2).holds w) : Calls Tryz.prog 18 #[.pointer (some ⟨b, 0, none⟩), Rfv e2] w (Back (.bool true) w) := by
 have hE : EndW w b e := EndW.of h ⟨rfl, hn⟩ hok
 by_cases hp : e.p = none
 ·exact alike_none b e e2 w hE hok hp hP (rfu_W hW)
 ·exact alike_some b e e2 w hE hok hn hp hP (rfu_W hW)
theorem refChs_any (E : En) (e : RfM) (i : Int) (w : World) (hP : RfP E e) (hW : RfW w e) (hok : EnOk E) (hq : chsE E i = 0) : Calls Tryz.prog 19 #[Rfv e, .int .i64 i] w (Ret w (fun o : Oc => e.t.L[i.toNat]? = some o) (fun o => .tuple #[Rfv (tookR e o), .int .i64 0]) (fun _ => [])) := (refChoose_yes E e i w hP hW hok hq).mono (fun _ _ ⟨o, ho, h⟩ => ⟨o, ho, h.1, (Wd.start (bs w)).up h.2⟩)
end Go.Proofs.YtomcpgdpjpjioaaGreat
