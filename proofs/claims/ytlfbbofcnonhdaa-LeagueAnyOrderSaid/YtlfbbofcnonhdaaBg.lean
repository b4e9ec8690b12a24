import Derived.Test.YtlfbbofcnonhdaaBd
import Derived.Test.YtlfbbofcnonhdaaJe
import Derived.Test.YtlfbbofcnonhdaaSf
/- Contracts of brackets: event. -/
namespace Go.Proofs.Ytlfbbofcnonhdaa
open Go Go.RowKit Go.Proofs

abbrev EvS := List Gm × List (Int × Int) × List (Int × Int)
/-- The games of an event, up to the i-th pair. -/
def evI (u : List (Int × Int)) (s : EvS) : Nat → EvS
 | 0 => s
 | i + 1 => ((evI u s i).1 ++ [(u.getD i (0, 0), u.getD (u.length - 1 - i) (0, 0))], (evI u s i).2.1 ++ [(1, ((evI u s i).1.length : Int))], (evI u s i).2.2 ++ [(2, ((evI u s i).1.length : Int))])
def evP (n : Nat) (al : List (Int × Int)) : Nat := min (al.length / 2) (al.length - n)
def evR (n : Nat) (s : EvS) : EvS := evI (s.2.1.drop (s.2.1.length - 2 * evP n s.2.1)) (s.1, s.2.1.take (s.2.1.length - 2 * evP n s.2.1), s.2.2) (evP n s.2.1)
def evW (n : Nat) : Nat → EvS → EvS
 | 0, s => s
 | f + 1, s => if n < s.2.1.length then evW n f (evR n s) else s
theorem evI_len (u : List (Int × Int)) (s : EvS) : ∀ i, (evI u s i).1.length = s.1.length + i ∧ (evI u s i).2.1.length = s.2.1.length + i ∧ (evI u s i).2.2.length = s.2.2.length + i
 | 0 => ⟨rfl, rfl, rfl⟩
 | i + 1 => by
  obtain ⟨h1, h2, h3⟩ := evI_len u s i
  unfold evI
  simp only [List.length_append, List.length_singleton]
  omega
theorem Arr.takeC {α : Type} {k : Nat} {enc : α → List Value} {A : Option Addr} {n c m : Nat} {w : World} {l : List α} (h : Arr k enc w (.slice A n c) l) (hm : m ≤ l.length) : Arr k enc w (.slice A m c) (l.take m) := by
 obtain ⟨A', cap, e, h2, h3, h4⟩ := h
 injection e with e1 e2 e3
 subst e1 e2 e3
 have hl : (l.take m).length = m := by rw [List.length_take]; omega
 refine ⟨A, c, by rw [hl], by omega, ⟨by omega, h3.2⟩, fun hn => ?_⟩
 obtain ⟨b, o, e, hh⟩ := h4 (by intro e; subst e; simp at hn)
 refine ⟨b, o, e, fun j hj i hi => ?_⟩
 rw [List.getElem_take]
 exact hh j (by omega) i hi
section
open Go
variable {P : Program} {n : Nat} {B : Bs} {Q : Exit → Act → World → Prop} {l : Sl} {H H1 : List It} {c : Code}
theorem J_addRo {C D : It} (rm : Rm C H H1) (hr : C.ro = true) (hDr : D.ro = true) (hD : ∀ w, C.holds w → D.holds w) (hf : ∀ b, D.foot b → C.foot b) (h : J P n B c Q l (D :: H)) : J P n B c Q l H := fun a w h1 h2 => h a w h1 (h2.addRo rm hr hDr (hD w (h2.ok C rm.mem).1) hf)
end
theorem view_ok {A : Option Addr} {c m : Nat} {al : List (Int × Int)} {w : World} (hm : m ≤ al.length) (h : (slsB 2 eP [⟨A, al.length, c, al⟩]).holds w) : (slsB 2 eP [⟨if c = m then A else A.map (·.add (m * 2)), al.length - m, c - m, al.drop m⟩]).holds w := fun p hp => by
 rw [List.mem_singleton.1 hp]
 have h1 : Arr 2 eP w (.slice A al.length c) al := h ⟨A, al.length, c, al⟩ (by simp)
 exact h1.drop hm
theorem view_foot {A : Option Addr} {c m : Nat} {al : List (Int × Int)} (hc : al.length ≤ c) (hA : al ≠ [] → ∃ b o, A = some ⟨b, o, none⟩) : ∀ b, (slsB 2 eP [⟨if c = m then A else A.map (·.add (m * 2)), al.length - m, c - m, al.drop m⟩]).foot b → (slsB 2 eP [⟨A, al.length, c, al⟩]).foot b := by
 rintro b ⟨p, hp, hn, o, ho⟩
 rw [List.mem_singleton.1 hp] at hn ho
 dsimp only at hn ho
 have hl : m < al.length := by
  rcases Nat.lt_or_ge m al.length with h | h
  ·exact h
  ·exact absurd (List.drop_eq_nil_of_le h) hn
 refine ⟨_, List.mem_singleton.2 rfl, by intro e; dsimp only at e; rw [e] at hl; simp at hl, ?_⟩
 rw [if_neg (by omega)] at ho
 obtain ⟨ab, ao, rfl⟩ := hA (by intro e; rw [e] at hl; simp at hl)
 refine ⟨ao, ?_⟩
 have ho' : some ((⟨ab, ao, none⟩ : Addr).add (m * 2)) = some ⟨b, o, none⟩ := ho
 rw [Addr.add_mid] at ho'
 injection ho' with ho'
 injection ho' with h1 h2 h3
 rw [← h1]
/-- Where an event's slices lie. -/
structure EvT where
 s : EvS
 Ag : Option Addr
 cg : Nat
 A1 : Option Addr
 c1 : Nat
 Ao : Option Addr
 co : Nat
def EvG (T : Int) (bp : Nat) (r : Value) (t : EvT) : List It :=
 [cellB bp [.int .i64 T, .slice t.Ag t.s.1.length t.cg, r] 25, ownB 90 4 t.Ag t.s.1.length t.cg (t.s.1.flatMap eG), ownB 89 2 t.A1 t.s.2.1.length t.c1 (t.s.2.1.flatMap eP), ownB 89 2 t.Ao t.s.2.2.length t.co (t.s.2.2.flatMap eP)]
set_option maxRecDepth 100000 in
set_option maxHeartbeats 4000000 in
theorem event50 (T : Int) (r : Value) (G : List Gm) (al : List (Int × Int)) (n : Nat) (w : World) (bp cg c1 : Nat) (Ag A1 : Option Addr) (B0 : Bs) (h0 : Wd B0 [cellB bp [.int .i64 T, .slice Ag G.length cg, r] 25, ownB 90 4 Ag G.length cg (G.flatMap eG), ownB 89 2 A1 al.length c1 (al.flatMap eP)] w) (hn : 1 ≤ n) (hb : G.length + al.length ≤ 1000) : Calls Try.prog 50 #[.pointer (some ⟨bp, 0, none⟩), .slice A1 al.length c1, .int .i64 (n : Nat)] w (RetL [cellB bp [.int .i64 T, .slice Ag G.length cg, r] 25, ownB 90 4 Ag G.length cg (G.flatMap eG), ownB 89 2 A1 al.length c1 (al.flatMap eP)] (fun t : EvT => t.s = evW n al.length (G, al, [])) (fun t => .tuple #[.slice t.A1 t.s.2.1.length t.c1, .slice t.Ao t.s.2.2.length t.co]) (EvG T bp r) w) := by
 refine J_enter (allI [cellB bp [.int .i64 T, .slice Ag G.length cg, r] 25, ownB 90 4 Ag G.length cg (G.flatMap eG), ownB 89 2 A1 al.length c1 (al.flatMap eP)]).foot (vs := [.pointer (some ⟨bp, 0, none⟩), .slice A1 al.length c1, .int .i64 (n : Nat)]) (k := 82) (l := [(0, .pointer (some ⟨bp, 0, none⟩)), (1, .slice A1 al.length c1), (2, .int .i64 (n : Nat))]) Try.func50 rfl rfl Try.ntmps50 rfl rfl (h0.startL) ?_
 refine J_seq ?_
 refine J_own0 89 2 ?_
 refine J_reg ?_
 refine JN rfl rfl rfl rfl rfl ?_
 refine JN rfl rfl rfl rfl rfl ?_
 refine JL_nil ?_
 refine JQ_then_n ?_
 refine J_seq ?_
 refine J_block ?_
 refine J_loop (T := EvT) (fun q => (∃ f, q.s.2.1.length ≤ f ∧ evW n f q.s = evW n al.length (G, al, [])) ∧ q.s.1.length + q.s.2.1.length ≤ 1000 ∧ q.s.2.2.length + q.s.2.1.length ≤ 1000) (fun q => [(0, .pointer (some ⟨bp, 0, none⟩)), (2, .int .i64 (n : Nat)), (1, .slice q.A1 q.s.2.1.length q.c1), (7, .slice q.Ao q.s.2.2.length q.co)]) (fun q => [cellB bp [.int .i64 T, .slice q.Ag q.s.1.length q.cg, r] 25, ownB 90 4 q.Ag q.s.1.length q.cg (q.s.1.flatMap eG), ownB 89 2 q.A1 q.s.2.1.length q.c1 (q.s.2.1.flatMap eP), ownB 89 2 q.Ao q.s.2.2.length q.co (q.s.2.2.flatMap eP)]) (fun q => q.s.2.1.length) ⟨(G, al, []), Ag, cg, A1, c1, none, 0⟩ ⟨⟨al.length, Nat.le_refl _, rfl⟩, hb, by dsimp only; simp; omega⟩ ⟨rfl, rfl, rfl, rfl, trivial⟩ (by repeat constructor) ?_
 rintro ⟨⟨g, a, ou⟩, Ag, cg, A1, c1, Ao, co⟩ ⟨⟨fu, hfu, hev⟩, hb1, hb2⟩
 dsimp only at hfu hev hb1 hb2 ⊢
 refine J_seq ?_
 refine J_seq ?_
 refine J_reg ?_
 refine JM rfl rfl rfl rfl rfl ?_
 refine JP (rp1 rfl (fun ρ hx w => ex_len (A := _) (c := _) rfl Try.underlying23 hx)) ?_
 refine JM rfl rfl rfl rfl rfl ?_
 refine JP (rp2 rfl rfl (fun ρ hx hy w => ex_gtrD rfl hx hy)) ?_
 refine JL_dec (fun h16 => ?_) (fun h16 => ?_)
 ·refine JL_nil ?_
  refine JQ_then_n ?_
  refine J_yes rfl rfl ?_
  refine J_skip ?_
  refine JQ_then_n ?_
  refine J_block ?_
  refine J_seq ?_
  obtain ⟨p, hpe⟩ : ∃ p : Nat, evP n a = p := ⟨_, rfl⟩
  have hp2 : p = min (a.length / 2) (a.length - n) := hpe.symm
  have hp1 : 1 ≤ p := by omega
  obtain ⟨m, hm⟩ : ∃ m : Nat, a.length - 2 * p = m := ⟨_, rfl⟩
  have hm2 : m + 2 * p = a.length := by omega
  refine J_keep (l' := [(0, _), (1, _), (2, _), (7, _)]) ⟨rfl, rfl, rfl, rfl, trivial⟩ ?_
  refine J_reg ?_
  refine JM rfl rfl rfl rfl rfl ?_
  refine JP (rp1 rfl (fun ρ hx w => ex_len (A := _) (c := _) rfl Try.underlying23 hx)) ?_
  refine JP (rp2 rfl rfl (fun ρ hx hy w => ex_quo rfl hx hy (by omega) (by omega))) ?_
  refine JM rfl rfl rfl rfl rfl ?_
  refine JP (rp1 rfl (fun ρ hx w => ex_len (A := _) (c := _) rfl Try.underlying23 hx)) ?_
  refine JM rfl rfl rfl rfl rfl ?_
  refine JP (rp2 rfl rfl (fun ρ hx hy w => ex_sub rfl hx hy (by omega))) ?_
  refine JP (rp2 rfl rfl (fun ρ hx hy w => ex_min rfl hx hy)) ?_
  refine JN rfl rfl rfl rfl rfl ?_
  refine JL_nil ?_
  refine JQ_then_n ?_
  refine J_seq ?_
  have hp : min ((a.length : Int) / 2) ((a.length : Int) - n) = (p : Nat) := by omega
  refine J_fact (fun hf => ?_)
  have hcap : a.length ≤ c1 := (own_cap (A := A1) (m := a.length) (c := c1) hf (by repeat constructor)).1
  obtain ⟨a1, ha1⟩ := own_some (A := A1) (m := a.length) (c := c1) hf (by repeat constructor) (by omega)
  refine J_keep (l' := [(0, _), (1, _), (2, _), (7, _), (8, _)]) ⟨rfl, rfl, rfl, rfl, rfl, trivial⟩ ?_
  refine J_draw [] (by kernel_rfl) ?_
  refine JAP (i := 0) rfl (rp_move rfl rfl) ?_
  refine JAP (i := 1) rfl (rp_move rfl rfl) ?_
  refine JAP (i := 2) rfl (rp1 rfl (fun ρ hx w => ex_len (A := _) (c := _) rfl Try.underlying23 hx)) ?_
  refine JAP (i := 3) rfl (rp_move rfl rfl) ?_
  refine JAP (i := 4) rfl (rp2 rfl rfl (fun ρ hx hy w => ex_mul rfl hx hy (by omega))) ?_
  refine JAP (i := 5) rfl (rp2 rfl rfl (fun ρ hx hy w => ex_sub rfl hx hy (by omega))) ?_
  refine JAP (i := 6) rfl (rp_sliceTo (k := m) rfl rfl rfl Try.underlying23 sz_89 (by omega) (by omega)) ?_
  refine JAP (i := 7) rfl (rp_move rfl rfl) ?_
  refine JAP (i := 8) rfl (rp_move rfl rfl) ?_
  refine JAP (i := 9) rfl (rp1 rfl (fun ρ hx w => ex_len (A := _) (c := _) rfl Try.underlying23 hx)) ?_
  refine JAP (i := 10) rfl (rp_move rfl rfl) ?_
  refine JAP (i := 11) rfl (rp2 rfl rfl (fun ρ hx hy w => ex_mul rfl hx hy (by omega))) ?_
  refine JAP (i := 12) rfl (rp2 rfl rfl (fun ρ hx hy w => ex_sub rfl hx hy (by omega))) ?_
  refine JAP (i := 13) rfl (rp_sliceFrom (k := m) rfl rfl rfl Try.underlying23 sz_89 (by omega) (by omega)) ?_
  refine JAP (i := 14) rfl (rp_assign rfl rfl) ?_
  refine JAP (i := 15) rfl (rp_assign rfl rfl) ?_
  refine JA_done (by kernel_rfl) ?_
  refine JQ_then_n ?_
  refine J_seq ?_
  refine J_freeze EP (A := A1) (L := a) (by repeat constructor) (by omega) ?_
  have hap : (a.take m).length = m := by rw [List.length_take]; omega
  refine J_keep (l' := [(0, _), (2, _), (7, _), (8, _), (9, _), (10, _)]) ⟨rfl, rfl, rfl, rfl, rfl, rfl, trivial⟩ ?_
  refine J_reg ?_
  refine JM rfl rfl rfl rfl rfl ?_
  refine JL_opS (wn0 rfl) (ow_callS (ec_fn rfl rfl cf_72) rfl rfl (fun w hw => (Clone72 (a.take m) _ w (Arr.takeC (sls_arr (D := [⟨A1, a.length, c1, a⟩]) (p := ⟨A1, a.length, c1, a⟩) hw (by repeat constructor) (by simp)) (by omega)) (by omega)).mono (fun _ _ h => retS_of h))) (fun A40 c40 => ?_)
  refine JN rfl rfl rfl rfl rfl ?_
  refine JL_nil ?_
  refine JQ_then_n ?_
  refine J_seq ?_
  refine J_addRo (C := slsB 2 eP [⟨A1, a.length, c1, a⟩]) (D := slsB 2 eP [⟨if c1 = m then A1 else A1.map (·.add (m * 2)), a.length - m, c1 - m, a.drop m⟩]) (by repeat (first | exact Rm.here _ | apply Rm.there)) rfl rfl (fun w h => view_ok (by omega) h) (view_foot hcap (fun _ => ⟨a1, 0, ha1⟩)) ?_
  have hstep : evR n (g, a, ou) = evI (a.drop m) (g, a.take m, ou) p := by unfold evR; dsimp only; rw [hpe, hm]
  have hphi : (∃ f, (evI (a.drop m) (g, a.take m, ou) p).2.1.length ≤ f ∧ evW n f (evI (a.drop m) (g, a.take m, ou) p) = evW n al.length (G, al, [])) ∧ (evI (a.drop m) (g, a.take m, ou) p).1.length + (evI (a.drop m) (g, a.take m, ou) p).2.1.length ≤ 1000 ∧ (evI (a.drop m) (g, a.take m, ou) p).2.2.length + (evI (a.drop m) (g, a.take m, ou) p).2.1.length ≤ 1000 := by
   obtain ⟨h1, h2, h3⟩ := evI_len (a.drop m) (g, a.take m, ou) p
   dsimp only at h1 h2 h3
   refine ⟨?_, by omega, by omega⟩
   obtain ⟨f, rfl⟩ : ∃ f, fu = f + 1 := ⟨fu - 1, by omega⟩
   refine ⟨f, by omega, ?_⟩
   rw [← hev, ← hstep]
   show _ = if n < a.length then _ else _
   rw [if_pos (by omega)]
  have hmu : (evI (a.drop m) (g, a.take m, ou) p).2.1.length < a.length := by
   have := (evI_len (a.drop m) (g, a.take m, ou) p).2.1
   dsimp only at this; omega
  obtain ⟨Av, hAv⟩ : ∃ Av, (if c1 = m then A1 else A1.map (·.add (m * 2))) = Av := ⟨_, rfl⟩
  rw [hAv]
  refine J_reg ?_
  refine JM rfl rfl rfl rfl rfl ?_
  refine JM rfl rfl rfl rfl rfl ?_
  refine JL_nil ?_
  refine JQ_then_n ?_
  refine J_block ?_
  refine J_loop (T := Nat × Option Addr × Nat × Option Addr × Nat × Option Addr × Nat) (fun q => q.1 ≤ p) (fun q => [(0, .pointer (some ⟨bp, 0, none⟩)), (2, .int .i64 (n : Nat)), (1, .slice q.2.2.2.1 (evI (a.drop m) (g, a.take m, ou) q.1).2.1.length q.2.2.2.2.1), (7, .slice q.2.2.2.2.2.1 (evI (a.drop m) (g, a.take m, ou) q.1).2.2.length q.2.2.2.2.2.2), (10, .slice Av (a.length - m) (c1 - m)), (41, .int .i64 (p : Nat)), (42, .int .i64 (q.1 : Nat))]) (fun q => [cellB bp [.int .i64 T, .slice q.2.1 (evI (a.drop m) (g, a.take m, ou) q.1).1.length q.2.2.1, r] 25, ownB 90 4 q.2.1 (evI (a.drop m) (g, a.take m, ou) q.1).1.length q.2.2.1 ((evI (a.drop m) (g, a.take m, ou) q.1).1.flatMap eG), ownB 89 2 q.2.2.2.1 (evI (a.drop m) (g, a.take m, ou) q.1).2.1.length q.2.2.2.2.1 ((evI (a.drop m) (g, a.take m, ou) q.1).2.1.flatMap eP), ownB 89 2 q.2.2.2.2.2.1 (evI (a.drop m) (g, a.take m, ou) q.1).2.2.length q.2.2.2.2.2.2 ((evI (a.drop m) (g, a.take m, ou) q.1).2.2.flatMap eP), slsB 2 eP [⟨Av, a.length - m, c1 - m, (a.drop m)⟩]]) (fun q => p - q.1) (0, Ag, cg, A40, c40, Ao, co) (Nat.zero_le _) ⟨rfl, rfl, rfl, rfl, rfl, (by rw [hp]; rfl), rfl, trivial⟩ (by repeat constructor) ?_
  rintro ⟨i, Ag, cg, A4, c4, Ao, co⟩ hi
  dsimp only at hi ⊢
  refine J_seq ?_
  refine J_reg ?_
  refine JP (rp2 rfl rfl (fun ρ hx hy w => ex_lssD rfl hx hy)) ?_
  refine JL_dec (fun h43 => ?_) (fun h43 => ?_)
  ·refine JL_nil ?_
   refine JQ_then_n ?_
   refine J_seq ?_
   refine J_yes rfl rfl ?_
   refine J_skip ?_
   refine JQ_then_n ?_
   refine J_seq ?_
   refine J_block ?_
   refine J_seq ?_
   have hlt : i < p := by omega
   have hul : (a.drop m).length = 2 * p := by rw [List.length_drop]; omega
   refine J_fact (fun hf => ?_)
   obtain ⟨-, -, -, hvA⟩ := sls_len (D := [⟨Av, a.length - m, c1 - m, a.drop m⟩]) (p := ⟨Av, a.length - m, c1 - m, a.drop m⟩) hf (by repeat constructor) (by simp)
   obtain ⟨vb, vo, hv⟩ := hvA (by intro e; dsimp only at e; rw [e] at hul; simp at hul; omega)
   dsimp only at hv
   subst hv
   obtain ⟨e1, e2, e3⟩ := evI_len (a.drop m) (g, a.take m, ou) i
   dsimp only at e1 e2 e3
   have hap : (a.take m).length = m := by rw [List.length_take]; omega
   have hg1 : (a.drop m).getD i (0, 0) = (a.drop m)[i]'(by omega) := by rw [List.getD_eq_getElem?_getD, List.getElem?_eq_getElem (by omega)]; rfl
   have hg2 : (a.drop m).getD ((a.drop m).length - 1 - i) (0, 0) = (a.drop m)[(a.drop m).length - 1 - i]'(by omega) := by rw [List.getD_eq_getElem?_getD, List.getElem?_eq_getElem (by omega)]; rfl
   refine J_reg ?_
   refine JM rfl rfl rfl rfl rfl ?_
   refine JN rfl rfl rfl rfl rfl ?_
   refine JL_nil ?_
   refine JQ_then_n ?_
   refine J_seq ?_
   refine J_reg ?_
   refine JM rfl rfl rfl rfl rfl ?_
   refine JP (rp_nil rfl rfl) ?_
   refine JP (rp_fieldC (off' := 1) rfl rfl fa_25_1 rfl) ?_
   refine JV (rv_cell rfl rfl ag_22 (by repeat constructor) (by rfl)) ?_
   refine JP (rp1 rfl (fun ρ hx w => ex_len (A := _) (c := _) rfl Try.underlying22 hx)) ?_
   refine JN rfl rfl rfl rfl rfl ?_
   refine JL_nil ?_
   refine JQ_then_n ?_
   refine J_seq ?_
   refine J_keep (l' := [(0, _), (1, _), (2, _), (7, _), (10, _), (11, _), (12, _), (41, _), (42, _)]) ⟨rfl, rfl, rfl, rfl, rfl, rfl, rfl, rfl, rfl, trivial⟩ ?_
   refine J_drawX [4] [8, 16] [slsB 2 eP [⟨some ⟨vb, vo, none⟩, a.length - m, c1 - m, a.drop m⟩]] (by repeat constructor) (by kernel_rfl) ?_
   refine JAP (i := 0) rfl (rp_move rfl rfl) ?_
   refine JAP (i := 1) rfl (rp_move rfl rfl) ?_
   refine JAP (i := 2) rfl (rp_nil rfl rfl) ?_
   refine JAP (i := 3) rfl (rp_fieldC (off' := 1) rfl rfl fa_25_1 rfl) ?_
   refine JAL (i := 4) rfl (rv_cell rfl rfl ag_22 (by repeat constructor) (by rfl)) ?_
   refine JAP (i := 5) rfl (rp_move rfl rfl) ?_
   refine JAP (i := 6) rfl (rp_move rfl rfl) ?_
   refine JAP (i := 7) rfl (rp2 rfl rfl (fun ρ hx hy w => ex_indexI (k := i) rfl hx hy rfl Try.underlying23 sz_89 (by omega))) ?_
   refine JAX (i := 8) rfl (rv_slsagg (D := [⟨some ⟨vb, vo, none⟩, a.length - m, c1 - m, a.drop m⟩]) (j := i) (cs := [.int .i64 ((a.drop m).getD (i) (0, 0)).1, .int .i64 ((a.drop m).getD (i) (0, 0)).2]) EP ⟨some ⟨vb, vo, none⟩, a.length - m, c1 - m, a.drop m⟩ rfl rfl ag_89 sz_89 (by repeat constructor) (by simp) rfl (by dsimp only; omega) (by rw [← hg1]; rfl)) ?_
   refine JAP (i := 9) rfl (rp_move rfl rfl) ?_
   refine JAP (i := 10) rfl (rp_move rfl rfl) ?_
   refine JAP (i := 11) rfl (rp1 rfl (fun ρ hx w => ex_len (A := _) (c := _) rfl Try.underlying23 hx)) ?_
   refine JAP (i := 12) rfl (rp2 rfl rfl (fun ρ hx hy w => ex_sub rfl hx hy (by omega))) ?_
   refine JAP (i := 13) rfl (rp_move rfl rfl) ?_
   refine JAP (i := 14) rfl (rp2 rfl rfl (fun ρ hx hy w => ex_sub rfl hx hy (by omega))) ?_
   refine JAP (i := 15) rfl (rp2 rfl rfl (fun ρ hx hy w => ex_indexI (k := (a.drop m).length - 1 - i) rfl hx hy (by omega) Try.underlying23 sz_89 (by omega))) ?_
   refine JAX (i := 16) rfl (rv_slsagg (D := [⟨some ⟨vb, vo, none⟩, a.length - m, c1 - m, a.drop m⟩]) (j := (a.drop m).length - 1 - i) (cs := [.int .i64 ((a.drop m).getD ((a.drop m).length - 1 - i) (0, 0)).1, .int .i64 ((a.drop m).getD ((a.drop m).length - 1 - i) (0, 0)).2]) EP ⟨some ⟨vb, vo, none⟩, a.length - m, c1 - m, a.drop m⟩ rfl rfl ag_89 sz_89 (by repeat constructor) (by simp) rfl (by dsimp only; omega) (by rw [← hg2]; rfl)) ?_
   refine JAP (i := 17) rfl (rp_buildC (fun us => [us.getD 0 undef, us.getD 1 undef]) rfl rfl (fun w => by kernel_rfl)) ?_
   refine JA_one (i := 18) (by kernel_rfl) rfl (wn0 rfl) (ow_sliceC (vs := [_, _, _, _]) (ty := 90) rfl rfl (by rfl) rfl rfl (fun _ => by kernel_rfl)) trivial (fun b68 hb68 => ?_)
   refine JA_oneS (i := 19) (by kernel_rfl) rfl (wn0 rfl) (ow_app1 EG (by decide) (((a.drop m).getD i (0, 0), (a.drop m).getD ((a.drop m).length - 1 - i) (0, 0))) Try.underlying22 Try.info90 rfl (by decide) rfl rfl rfl rfl rfl (by repeat constructor) (by rfl) (by omega) (by intro A c; repeat constructor)) ⟨by kernel_rfl, .inr ⟨rfl, (by repeat constructor)⟩⟩ (fun A69 c69 => ?_)
   refine JAP (i := 20) rfl (rp_nil rfl rfl) ?_
   refine JAP (i := 21) rfl (rp_fieldC (off' := 1) rfl rfl fa_25_1 rfl) ?_
   refine JA_one (i := 22) (by kernel_rfl) rfl (wn0 rfl) (ow_store (cs := [_]) (vs' := [_, _, _]) rfl rfl rfl rfl rfl sz_22 rfl (by repeat constructor) (by rfl) (by rfl)) ⟨by kernel_rfl, .inr ⟨rfl, (by repeat constructor)⟩⟩ (fun _ _ => ?_)
   refine JA_done (by kernel_rfl) ?_
   refine JQ_then_n ?_
   refine J_keep (l' := [(0, _), (1, _), (2, _), (7, _), (10, _), (12, _), (41, _), (42, _)]) ⟨rfl, rfl, rfl, rfl, rfl, rfl, rfl, rfl, trivial⟩ ?_
   refine J_reg ?_
   refine JM rfl rfl rfl rfl rfl ?_
   refine JM rfl rfl rfl rfl rfl ?_
   refine JL_op (wn0 rfl) (ow_callB (ec_fn rfl rfl cf_58) rfl rfl (fun w hw => winner58 _ w)) (fun _ _ => ?_)
   refine JL_op (wn0 rfl) (ow_sliceC (vs := [_, _]) (ty := 89) rfl rfl (by rfl) rfl rfl (fun _ => by kernel_rfl)) (fun b75 hb75 => ?_)
   refine JL_opS (wn0 rfl) (ow_app1 EP (by decide) (((1 : Int), ((evI (a.drop m) (g, a.take m, ou) i).1.length : Int))) Try.underlying23 Try.info89 rfl (by decide) rfl rfl rfl rfl rfl (by repeat constructor) (by rfl) (by omega) (by intro A c; repeat constructor)) (fun A76 c76 => ?_)
   refine JM rfl rfl rfl rfl rfl ?_
   refine JM rfl rfl rfl rfl rfl ?_
   refine JL_op (wn0 rfl) (ow_callB (ec_fn rfl rfl cf_57) rfl rfl (fun w hw => loser57 _ w)) (fun _ _ => ?_)
   refine JL_op (wn0 rfl) (ow_sliceC (vs := [_, _]) (ty := 89) rfl rfl (by rfl) rfl rfl (fun _ => by kernel_rfl)) (fun b80 hb80 => ?_)
   refine JL_opS (wn0 rfl) (ow_app1 EP (by decide) (((2 : Int), ((evI (a.drop m) (g, a.take m, ou) i).1.length : Int))) Try.underlying23 Try.info89 rfl (by decide) rfl rfl rfl rfl rfl (by repeat constructor) (by rfl) (by omega) (by intro A c; repeat constructor)) (fun A81 c81 => ?_)
   refine JN rfl rfl rfl rfl rfl ?_
   refine JN rfl rfl rfl rfl rfl ?_
   refine JL_nil ?_
   refine JQ_block_n ?_
   refine JQ_then_n ?_
   refine J_keep (l' := [(0, _), (1, _), (2, _), (7, _), (10, _), (41, _), (42, _)]) ⟨rfl, rfl, rfl, rfl, rfl, rfl, rfl, trivial⟩ ?_
   refine J_reg ?_
   refine JP (rp2 rfl rfl (fun ρ hx hy w => ex_add rfl hx hy (by omega))) ?_
   refine JM rfl rfl rfl rfl rfl ?_
   refine JL_nil ?_
   exact JQ_round (i + 1, A69, c69, A76, c76, A81, c81) (by dsimp only; omega) (by dsimp only; omega) ⟨rfl, rfl, rfl, rfl, rfl, rfl, (congrArg some (by go_num)), trivial⟩ (by repeat constructor)
  ·refine JL_nil ?_
   refine JQ_then_n ?_
   refine J_seq ?_
   refine J_no rfl rfl ?_
   refine J_exit ?_
   refine JQ_then_x ?_
   refine JQ_then_x ?_
   refine JQ_block_y rfl ?_
   refine JQ_block_n ?_
   obtain rfl : i = p := by omega
   exact JQ_round ⟨evI (a.drop m) (g, a.take m, ou) i, Ag, cg, A4, c4, Ao, co⟩ hphi hmu ⟨rfl, rfl, rfl, rfl, trivial⟩ (by repeat constructor)
 ·refine JL_nil ?_
  refine JQ_then_n ?_
  refine J_no rfl rfl ?_
  refine J_exit ?_
  refine JQ_then_x ?_
  refine JQ_then_x ?_
  refine JQ_block_y rfl ?_
  refine JQ_then_n ?_
  refine J_seq ?_
  refine J_keep (l' := [(1, _), (7, _)]) ⟨rfl, rfl, trivial⟩ ?_
  refine J_reg ?_
  refine JM rfl rfl rfl rfl rfl ?_
  refine JM rfl rfl rfl rfl rfl ?_
  refine JN rfl rfl rfl rfl rfl ?_
  refine JN rfl rfl rfl rfl rfl ?_
  refine JL_nil ?_
  refine JQ_then_n ?_
  refine J_ret ?_
  refine JR_two rfl (rr_tmp rfl) (rr_tmp rfl) ?_
  intro w' hw
  have he : (g, a, ou) = evW n al.length (G, al, []) := by
   rw [← hev]
   cases fu with
   | zero => rfl
   | succ f => show _ = if n < a.length then _ else _; rw [if_neg (by omega)]
  exact ⟨⟨(g, a, ou), Ag, cg, A1, c1, Ao, co⟩, he, rfl, hw.pick (by repeat constructor)⟩
end Go.Proofs.Ytlfbbofcnonhdaa

/- Contracts of brackets: Reverse, Knockout. -/
namespace Go.Proofs.Ytlfbbofcnonhdaa
open Go Go.RowKit Go.Proofs

/-- A list, turned round up to its k-th element. -/
def revK (L : List (Int × Int)) : Nat → List (Int × Int)
 | 0 => L
 | k + 1 => ((revK L k).set k ((revK L k).getD (L.length - 1 - k) (0, 0))).set (L.length - 1 - k) ((revK L k).getD k (0, 0))
theorem revK_len (L : List (Int × Int)) : ∀ k, (revK L k).length = L.length
 | 0 => rfl
 | k + 1 => by unfold revK; rw [List.length_set, List.length_set, revK_len L k]
theorem revK_get (L : List (Int × Int)) : ∀ k, 2 * k ≤ L.length → ∀ x, x < L.length → (revK L k)[x]? = if x < k ∨ L.length - 1 - x < k then L[L.length - 1 - x]? else L[x]?
 | 0, _, x, hx => by rw [if_neg (by omega)]; rfl
 | k + 1, hk, x, hx => by
  have ih := revK_get L k (by omega)
  have h1 : (revK L k).getD (L.length - 1 - k) (0, 0) = L[L.length - 1 - k]'(by omega) := by
   rw [List.getD_eq_getElem?_getD, ih _ (by omega), if_neg (by omega), List.getElem?_eq_getElem (by omega)]; rfl
  have h2 : (revK L k).getD k (0, 0) = L[k]'(by omega) := by
   rw [List.getD_eq_getElem?_getD, ih _ (by omega), if_neg (by omega), List.getElem?_eq_getElem (by omega)]; rfl
  unfold revK
  rw [h1, h2, List.getElem?_set, List.getElem?_set]
  have hlen := revK_len L k
  rw [List.length_set, hlen]
  by_cases e1 : L.length - 1 - k = x
  ·subst e1
   rw [if_pos rfl, if_pos (by omega), if_pos (by omega), show L.length - 1 - (L.length - 1 - k) = k by omega, List.getElem?_eq_getElem]
  ·rw [if_neg e1]
   by_cases e2 : k = x
   ·subst e2
    rw [if_pos rfl, if_pos (by omega), if_pos (by omega), List.getElem?_eq_getElem]
   ·rw [if_neg e2, ih x hx]
    by_cases h : x < k ∨ L.length - 1 - x < k
    ·rw [if_pos h, if_pos (by omega)]
    ·rw [if_neg h, if_neg (by omega)]
theorem revK_all (L : List (Int × Int)) (k : Nat) (h : L.length ≤ 2 * k + 1) (hk : 2 * k ≤ L.length) : revK L k = L.reverse := by
 apply List.ext_getElem?
 intro x
 rcases Nat.lt_or_ge x L.length with hx | hx
 ·rw [revK_get L k hk x hx, List.getElem?_reverse hx]
  by_cases e : x < k ∨ L.length - 1 - x < k
  ·rw [if_pos e]
  ·rw [if_neg e, show L.length - 1 - x = x by omega]
 ·rw [List.getElem?_eq_none (by rw [revK_len]; omega), List.getElem?_eq_none (by rw [List.length_reverse]; omega)]
set_option maxRecDepth 100000 in
set_option maxHeartbeats 4000000 in
theorem reverse51 (L : List (Int × Int)) (w : World) (A : Option Addr) (c : Nat) (B0 : Bs) (h0 : Wd B0 [ownB 89 2 A L.length c (L.flatMap eP)] w) (hl : L.length ≤ 1000) : Calls Try.prog 51 #[.slice A L.length c] w (RetL [ownB 89 2 A L.length c (L.flatMap eP)] (fun _ : Unit => True) (fun _ => .tuple #[]) (fun _ => [ownB 89 2 A L.length c (L.reverse.flatMap eP)]) w) := by
 refine J_enter (allI [ownB 89 2 A L.length c (L.flatMap eP)]).foot (vs := [.slice A L.length c]) (k := 27) (l := [(0, .slice A L.length c)]) Try.func51 rfl rfl Try.ntmps51 rfl rfl (h0.startL) ?_
 refine J_seq ?_
 refine J_reg ?_
 refine JM rfl rfl rfl rfl rfl ?_
 refine JP (rp1 rfl (fun ρ hx w => ex_len (A := _) (c := _) rfl Try.underlying23 hx)) ?_
 refine JP (rp2 rfl rfl (fun ρ hx hy w => ex_sub rfl hx hy (by omega))) ?_
 refine JN rfl rfl rfl rfl rfl ?_
 refine JN rfl rfl rfl rfl rfl ?_
 refine JL_nil ?_
 refine JQ_then_n ?_
 refine J_block ?_
 refine J_loop (T := Nat) (fun q => 2 * q ≤ L.length) (fun q => [(0, .slice A L.length c), (2, .int .i64 (q : Nat)), (3, .int .i64 ((L.length : Int) - 1 - (q : Nat)))]) (fun q => [ownB 89 2 A L.length c ((revK L q).flatMap eP)]) (fun q => L.length - q) 0 (Nat.zero_le _) ⟨rfl, rfl, (congrArg some (by go_num)), trivial⟩ (by repeat constructor) ?_
 rintro k hk
 refine J_seq ?_
 refine J_seq ?_
 refine J_reg ?_
 refine JM rfl rfl rfl rfl rfl ?_
 refine JM rfl rfl rfl rfl rfl ?_
 refine JP (rp2 rfl rfl (fun ρ hx hy w => ex_lssD rfl hx hy)) ?_
 refine JL_dec (fun h9 => ?_) (fun h9 => ?_)
 ·refine JL_nil ?_
  refine JQ_then_n ?_
  refine J_yes rfl rfl ?_
  refine J_skip ?_
  refine JQ_then_n ?_
  refine J_seq ?_
  refine J_block ?_
  have hlt : k < L.length - 1 - k := by omega
  have hlen := revK_len L k
  refine J_fact (fun hf => ?_)
  obtain ⟨b, rfl⟩ := own_some (A := A) hf (by repeat constructor) (by omega)
  have hg1 : (revK L k)[L.length - 1 - k]'(by omega) = (revK L k).getD (L.length - 1 - k) (0, 0) := by rw [List.getD_eq_getElem?_getD, List.getElem?_eq_getElem (by omega)]; rfl
  have hg2 : (revK L k)[k]'(by omega) = (revK L k).getD k (0, 0) := by rw [List.getD_eq_getElem?_getD, List.getElem?_eq_getElem (by omega)]; rfl
  refine J_draw [7, 11] (by kernel_rfl) ?_
  refine JAP (i := 0) rfl (rp_move rfl rfl) ?_
  refine JAP (i := 1) rfl (rp_move rfl rfl) ?_
  refine JAP (i := 2) rfl (rp_move rfl rfl) ?_
  refine JAP (i := 3) rfl (rp_move rfl rfl) ?_
  refine JAP (i := 4) rfl (rp_move rfl rfl) ?_
  refine JAP (i := 5) rfl (rp_move rfl rfl) ?_
  refine JAP (i := 6) rfl (rp2 rfl rfl (fun ρ hx hy w => ex_indexI (k := L.length - 1 - k) rfl hx hy (by omega) Try.underlying23 sz_89 (by omega))) ?_
  refine JAL (i := 7) rfl (rv_ownaggE (L := revK L k) (j := L.length - 1 - k) (cs := [.int .i64 ((revK L k).getD (L.length - 1 - k) (0, 0)).1, .int .i64 ((revK L k).getD (L.length - 1 - k) (0, 0)).2]) EP rfl rfl ag_89 sz_89 (by repeat constructor) (by omega) (by rw [hg1]; rfl)) ?_
  refine JAP (i := 8) rfl (rp_move rfl rfl) ?_
  refine JAP (i := 9) rfl (rp_move rfl rfl) ?_
  refine JAP (i := 10) rfl (rp2 rfl rfl (fun ρ hx hy w => ex_indexI (k := k) rfl hx hy rfl Try.underlying23 sz_89 (by omega))) ?_
  refine JAL (i := 11) rfl (rv_ownaggE (L := revK L k) (j := k) (cs := [.int .i64 ((revK L k).getD (k) (0, 0)).1, .int .i64 ((revK L k).getD (k) (0, 0)).2]) EP rfl rfl ag_89 sz_89 (by repeat constructor) (by omega) (by rw [hg2]; rfl)) ?_
  refine JAP (i := 12) rfl (rp2 rfl rfl (fun ρ hx hy w => ex_indexI (k := k) rfl hx hy rfl Try.underlying23 sz_89 (by omega))) ?_
  refine JA_one (i := 13) (by kernel_rfl) rfl (wn0 rfl) (ow_storeE (L := revK L k) (j := k) (cs := [_, _]) EP ((revK L k).getD (L.length - 1 - k) (0, 0)) rfl rfl rfl rfl rfl sz_89 rfl (by repeat constructor) (by omega) (Nat.le_of_ble_eq_true rfl) rfl) ⟨by kernel_rfl, .inl (by kernel_rfl)⟩ (fun _ _ => ?_)
  refine JAP (i := 14) rfl (rp2 rfl rfl (fun ρ hx hy w => ex_indexI (k := L.length - 1 - k) rfl hx hy (by omega) Try.underlying23 sz_89 (by omega))) ?_
  refine JA_one (i := 15) (by kernel_rfl) rfl (wn0 rfl) (ow_storeE (j := L.length - 1 - k) (cs := [_, _]) EP ((revK L k).getD k (0, 0)) rfl rfl rfl rfl rfl sz_89 rfl (by repeat constructor) (by rw [List.length_set]; omega) (Nat.le_of_ble_eq_true rfl) rfl) ⟨by kernel_rfl, .inl (by kernel_rfl)⟩ (fun _ _ => ?_)
  refine JA_done (by kernel_rfl) ?_
  refine JQ_block_n ?_
  refine JQ_then_n ?_
  refine J_keep (l' := [(0, _), (2, _), (3, _)]) ⟨rfl, rfl, rfl, trivial⟩ ?_
  refine J_reg ?_
  refine JM rfl rfl rfl rfl rfl ?_
  refine JP (rp2 rfl rfl (fun ρ hx hy w => ex_add rfl hx hy (by omega))) ?_
  refine JM rfl rfl rfl rfl rfl ?_
  refine JP (rp2 rfl rfl (fun ρ hx hy w => ex_sub rfl hx hy (by omega))) ?_
  refine JN rfl rfl rfl rfl rfl ?_
  refine JN rfl rfl rfl rfl rfl ?_
  refine JL_nil ?_
  exact JQ_round (k + 1) (by omega) (by omega) ⟨rfl, (congrArg some (by go_num)), (congrArg some (by go_num)), trivial⟩ (by repeat constructor)
 ·refine JL_nil ?_
  refine JQ_then_n ?_
  refine J_no rfl rfl ?_
  refine J_exit ?_
  refine JQ_then_x ?_
  refine JQ_then_x ?_
  refine JQ_block_y rfl ?_
  refine JR_end rfl ?_
  intro w' hw
  rw [revK_all L k (by omega) hk] at hw
  exact ⟨(), trivial, rfl, hw.pick (by repeat constructor)⟩
end Go.Proofs.Ytlfbbofcnonhdaa

/- Contracts of brackets: Knockout. -/
namespace Go.Proofs.Ytlfbbofcnonhdaa
open Go Go.RowKit Go.Proofs

theorem evR_len {n : Nat} {s : EvS} (h : n < s.2.1.length) : (evR n s).1.length + (evR n s).2.1.length = s.1.length + s.2.1.length ∧ (evR n s).2.2.length + (evR n s).2.1.length = s.2.2.length + s.2.1.length := by
 unfold evR
 have hp : evP n s.2.1 = min (s.2.1.length / 2) (s.2.1.length - n) := rfl
 generalize evP n s.2.1 = p at *
 obtain ⟨h1, h2, h3⟩ := evI_len (s.2.1.drop (s.2.1.length - 2 * p)) (s.1, s.2.1.take (s.2.1.length - 2 * p), s.2.2) p
 dsimp only at h1 h2 h3
 rw [List.length_take] at h2
 omega
theorem evW_len (n : Nat) : ∀ (f : Nat) (s : EvS), (evW n f s).1.length + (evW n f s).2.1.length = s.1.length + s.2.1.length ∧ (evW n f s).2.2.length + (evW n f s).2.1.length = s.2.2.length + s.2.1.length
 | 0, s => ⟨rfl, rfl⟩
 | f + 1, s => by
  unfold evW
  split
  ·have h1 := evR_len (n := n) (s := s) (by assumption)
   have h2 := evW_len n f (evR n s)
   omega
  ·exact ⟨rfl, rfl⟩
theorem evW_pos (n : Nat) (hn : 1 ≤ n) : ∀ (f : Nat) (s : EvS), 1 ≤ s.2.1.length → 1 ≤ (evW n f s).2.1.length
 | 0, s, h => h
 | f + 1, s, h => by
  unfold evW
  split
  ·rename_i h1
   refine evW_pos n hn f (evR n s) ?_
   unfold evR
   have hp : evP n s.2.1 = min (s.2.1.length / 2) (s.2.1.length - n) := rfl
   generalize evP n s.2.1 = p at *
   have h2 := (evI_len (s.2.1.drop (s.2.1.length - 2 * p)) (s.1, s.2.1.take (s.2.1.length - 2 * p), s.2.2) p).2.1
   dsimp only at h2
   rw [List.length_take] at h2
   omega
  ·exact h
section
open Go
variable {n : Nat} {B : Bs} {o : Oper} {l : Sl} {H : List It} {w : World}
theorem run_append0 (sl e ty : TypeId) (A : Option Addr) (m c sz : Nat) (ht : Try.prog.underlying sl = some (.slice e)) (hs : ∀ w, (sizeOf e).run Try.prog w = .ok sz w) (hmc : m ≤ c) : (Builtin.append_ #[sl, sl] ty #[.slice A m c, .slice none 0 0]).run Try.prog w = .ok (.slice A m c) w := by
 cases A <;> simp [Builtin.append_, run_underlying ht, hs, Builtin.lenOf, Builtin.firstCells, storeCells, hmc, Sem.run_bind]
theorem rv_app0 {sl e : TypeId} {x y : Operand} {A : Option Addr} {m c sz : Nat} (ht : Try.prog.underlying sl = some (.slice e)) (hs : ∀ w, (sizeOf e).run Try.prog w = .ok sz w) (ho : o.op = .call { callee := .builtin .append, args := #[x, y], argTypes := #[sl, sl] }) (hx : evl l x = some (.slice A m c)) (hy : evl l y = some (.slice none 0 0)) (hmc : m ≤ c) : RV Try.prog n B l H o (.slice A m c) := by
 intro a w ha hw
 exact run_append_op ho (ha.ev hx) (ha.ev hy) (run_append0 sl e o.type A m c sz ht hs hmc)
theorem own_or {ty k m c : Nat} {A : Option Addr} {xs : List Value} (hw : ∃ w, Wd B H w) (hm : ownB ty k A m c xs ∈ H) : (A = none ∧ m = 0 ∧ c = 0) ∨ ∃ g, A = some ⟨g, 0, none⟩ := by
 obtain ⟨w, hw⟩ := hw
 have h1 : w.ownsRow 0 ty k (.slice A m c) m xs := (hw.ok _ hm).1
 rcases h1.2 with ⟨h2, h3⟩ | ⟨g, cap, cur, h2, -⟩
 ·injection h2 with e1 e2 e3; exact .inl ⟨e1, e2, e3⟩
 ·injection h2 with e1 e2 e3; exact .inr ⟨g, e1⟩
end
abbrev KoS := List Gm × List (Int × Int) × List (Int × Int)
/-- The events of a knockout, one behind another. -/
def koF : List Int → KoS → Option KoS
 | [], s => some s
 | n :: ns, s => if s.2.1.length = 0 then none else koF ns ((evW n.toNat s.2.1.length (s.1, s.2.1, [])).1, (evW n.toNat s.2.1.length (s.1, s.2.1, [])).2.2, s.2.2 ++ (evW n.toNat s.2.1.length (s.1, s.2.1, [])).2.1)
def seedL (T : Nat) : List (Int × Int) := (List.range T).map fun t => ((0 : Int), ((t : Nat) : Int))
theorem seedL_succ (T : Nat) : seedL (T + 1) = seedL T ++ [(0, ((T : Nat) : Int))] := by unfold seedL; rw [List.range_succ, List.map_append]; rfl
theorem seedL_len (T : Nat) : (seedL T).length = T := by simp [seedL]
def koBad (T : Int) (n : Int) : Bool := !decide (1 ≤ n ∧ n ≤ T)
/-- What a knockout comes to: why there is none; the teams, the games, the ranks. -/
def koR (T : Int) (tk : List Int) : Int × Int × List Gm × List (Int × Int) :=
 if ¬ (2 ≤ T ∧ T ≤ 16) ∨ ¬ (1 ≤ (tk.length : Int) ∧ (tk.length : Int) ≤ 3) ∨ tk.any (koBad T) = true then (4, 0, [], [])
 else match koF tk ([], seedL T.toNat, []) with
  | none => (2, 0, [], [])
  | some s => if 1 ≤ (s.1.length : Int) ∧ (s.1.length : Int) ≤ 64 then (0, T, s.1, s.2.2 ++ s.2.1.reverse) else (2, 0, [], [])
structure KoT where
 s : KoS
 Ag : Option Addr
 cg : Nat
 A8 : Option Addr
 c8 : Nat
 Ar : Option Addr
 cr : Nat
set_option maxRecDepth 100000 in
set_option maxHeartbeats 4000000 in
theorem bad46 (n T : Int) (w : World) (b : Nat) (hc : w.cell? ⟨b, 0, none⟩ = some (.int .i64 T)) : Calls Try.prog 46 #[.int .i64 n, .pointer (some ⟨b, 0, none⟩)] w (Back (.bool (koBad T n)) w) := by
 refine J_enter (fun _ => False) (vs := [.int .i64 n, .pointer (some ⟨b, 0, none⟩)]) (k := 6) (l := [(0, .int .i64 n), (1, .pointer (some ⟨b, 0, none⟩))]) Try.func46 rfl rfl Try.ntmps46 rfl rfl (Wd.start _) ?_
 refine J_seq ?_
 refine J_reg ?_
 refine JN rfl rfl rfl rfl rfl ?_
 refine JL_nil ?_
 refine JQ_then_n ?_
 refine J_seq ?_
 refine J_reg ?_
 refine JM rfl rfl rfl rfl rfl ?_
 refine JV (rv_old rfl rfl ag_3 (fun h => h) hc) ?_
 refine JL_op (wn0 rfl) (ow_callP (ec_fn rfl rfl cf_47) rfl rfl (fun w hw => within47 n 1 T w)) (fun _ _ => ?_)
 refine JP (rp1 rfl (fun ρ hx w => ex_not rfl hx)) ?_
 refine JN rfl rfl rfl rfl rfl ?_
 refine JL_nil ?_
 refine JQ_then_n ?_
 refine J_ret ?_
 refine JR_one rfl (rr_tmp rfl) ?_
 intro w' hw
 exact ⟨rfl, hw.bel⟩
set_option maxRecDepth 100000 in
set_option maxHeartbeats 4000000 in
theorem Knockout15 (T : Int) (tk : List Int) (v : Value) (w : World) (hrow : Arr 1 eI w v tk) : Calls Try.prog 15 #[.int .i64 T, v] w (Ret w (fun _ : BrT => True) (fun t => .tuple #[Brv (koR T tk).2.1 t.A (koR T tk).2.2.1.length t.c t.A2 (koR T tk).2.2.2.length t.c2, .int .i64 (koR T tk).1]) (BrG (koR T tk).2.2.1 (koR T tk).2.2.2)) := by
 obtain ⟨A, cap, rfl⟩ := hrow.form
 obtain ⟨Aq, cq, eq, -, -, hA⟩ := id hrow
 injection eq with e1 e2 e3
 subst e1 e3
 refine J_enter (fun _ => False) (vs := [.int .i64 T, .slice A tk.length cap]) (k := 77) (l := [(0, .int .i64 T), (1, .slice A tk.length cap)]) Try.func15 rfl rfl Try.ntmps15 rfl rfl (Wd.start _) ?_
 refine J_seq ?_
 refine J_reg ?_
 refine JL_op (wn0 rfl) (ow_box (vs := [_]) rfl rfl rfl rfl rfl) (fun b2 hb2 => ?_)
 refine JL_op (wn0 rfl) (ow_alloc rfl rfl zv_25 rfl rfl) (fun b4 hb4 => ?_)
 refine JN rfl rfl rfl rfl rfl ?_
 refine JL_nil ?_
 refine JQ_then_n ?_
 refine J_seq ?_
 refine J_reg ?_
 refine JP (rp_func rfl rfl rfl) ?_
 refine JN rfl rfl rfl rfl rfl ?_
 refine JL_nil ?_
 refine JQ_then_n ?_
 refine J_seq ?_
 refine J_seq ?_
 refine J_reg ?_
 refine JV (rv_cell rfl rfl ag_3 (by repeat constructor) (by rfl)) ?_
 refine JL_op (wn0 rfl) (ow_callP (ec_fn rfl rfl cf_47) rfl rfl (fun w hw => within47 T 2 16 w)) (fun _ _ => ?_)
 refine JL_bool (fun h16 => ?_) (fun h16 => ?_)
 ·refine JP (rp1 rfl (fun ρ hx w => ex_not rfl hx)) ?_
  refine JM rfl rfl rfl rfl rfl ?_
  refine JPg (rp_move rfl rfl) ?_
  refine JPg (rp1 rfl (fun ρ hx w => ex_len (A := _) (c := _) rfl Try.underlying26 hx)) ?_
  refine JL_op (wn_g rfl rfl rfl rfl) (ow_callP (ec_fn rfl rfl cf_47) rfl rfl (fun w hw => within47 tk.length 1 3 w)) (fun _ _ => ?_)
  refine JL_bool (fun h21 => ?_) (fun h21 => ?_)
  ·refine JPg (rp1 rfl (fun ρ hx w => ex_not rfl hx)) ?_
   refine JP (rp_pickF rfl rfl rfl) ?_
   refine JM rfl rfl rfl rfl rfl ?_
   refine JPg (rp_move rfl rfl) ?_
   refine JPg (rp_move rfl rfl) ?_
   refine JL_op (wn_g rfl rfl rfl rfl) (ow_callB (ec_fn rfl rfl cf_48) rfl rfl (fun w hw => ContainsFunc48 46 #[] #[.pointer (some ⟨b2, 0, none⟩)] (koBad T) tk _ w cf_46 (fun x hx W hW => bad46 x T W b2 (upc (cellB_get (hw.ok _ (by repeat constructor)).1 rfl) hW)) (hrow.up EI hw.bel) (by have := of_decide_eq_true h21; omega))) (fun _ _ => ?_)
   refine JL_bool (fun h27 => ?_) (fun h27 => ?_)
   ·refine JP (rp_pickF rfl rfl rfl) ?_
    refine JL_nil ?_
    refine JQ_then_n ?_
    refine J_yes rfl rfl ?_
    refine J_seq ?_
    refine J_keep (l' := [(4, _)]) ⟨rfl, trivial⟩ ?_
    refine J_reg ?_
    refine JP (rp_buildC (fun us => [.int .i64 0, .slice none 0 0, .slice none 0 0]) rfl rfl (fun w => by kernel_rfl)) ?_
    refine JL_op (wn0 rfl) (ow_store (cs := [_, _, _]) (vs' := [_, _, _]) rfl rfl rfl rfl rfl sz_25 rfl (by repeat constructor) (by rfl) (by rfl)) (fun _ _ => ?_)
    refine JN rfl rfl rfl rfl rfl ?_
    refine JL_nil ?_
    refine JQ_then_n ?_
    refine J_ret ?_
    refine JQ_then_r ?_
    refine JR_two rfl (rr_agg (cs := [_, _, _]) rfl ag_25 sz_25 (by repeat constructor) (by rfl)) (rr_tmp rfl) ?_
    intro w' hw
    have e : koR T tk = (4, 0, [], []) := by unfold koR; rw [if_pos (.inr (.inr h27))]
    rw [e]
    exact ⟨⟨none, 0, none, 0⟩, trivial, rfl, (((hw.own0 89 2).own0 90 4).pick (by repeat constructor))⟩
   ·refine JP (rp_pickF rfl rfl rfl) ?_
    refine JL_nil ?_
    refine JQ_then_n ?_
    refine J_no rfl rfl ?_
    refine J_skip ?_
    refine JQ_then_n ?_
    refine J_seq ?_
    have hTb := of_decide_eq_true h16
    have hlb := of_decide_eq_true h21
    obtain ⟨T, rfl⟩ := Int.eq_ofNat_of_zero_le (show 0 ≤ T by omega)
    have hbad : ∀ n ∈ tk, 1 ≤ n ∧ n ≤ T := fun n hn => by
     have := List.any_eq_false.1 h27 n hn
     simpa [koBad] using this
    have hK : koR (T : Nat) tk = (match koF tk ([], seedL T, []) with | none => (2, 0, [], []) | some s => if 1 ≤ (s.1.length : Int) ∧ (s.1.length : Int) ≤ 64 then (0, ((T : Nat) : Int), s.1, s.2.2 ++ s.2.1.reverse) else (2, 0, [], [])) := by
     unfold koR; rw [if_neg (by rintro (h | h | h); exact h hTb; exact h hlb; rw [h27] at h; cases h)]; rfl
    refine J_keep (l' := [(1, _), (2, _), (4, _)]) ⟨rfl, rfl, rfl, trivial⟩ ?_
    refine J_reg ?_
    refine JV (rv_cell rfl rfl ag_3 (by repeat constructor) (by rfl)) ?_
    refine JP (rp_buildC (fun us => [us.getD 0 undef, .slice none 0 0, .slice none 0 0]) rfl rfl (fun w => by kernel_rfl)) ?_
    refine JL_op (wn0 rfl) (ow_alloc rfl rfl zv_25 rfl rfl) (fun b7 hb7 => ?_)
    refine JL_op (wn0 rfl) (ow_store (cs := [_, _, _]) (vs' := [_, _, _]) rfl rfl rfl rfl rfl sz_25 rfl (by repeat constructor) (by rfl) (by rfl)) (fun _ _ => ?_)
    refine JL_nil ?_
    refine JQ_then_n ?_
    refine J_seq ?_
    refine J_own0 89 2 ?_
    refine J_own0 90 4 ?_
    refine J_own0 89 2 ?_
    refine J_reg ?_
    refine JN rfl rfl rfl rfl rfl ?_
    refine JL_nil ?_
    refine JQ_then_n ?_
    refine J_seq ?_
    refine J_seq ?_
    refine J_reg ?_
    refine JV (rv_cell rfl rfl ag_3 (by repeat constructor) (by rfl)) ?_
    refine JM rfl rfl rfl rfl rfl ?_
    refine JL_nil ?_
    refine JQ_then_n ?_
    refine J_block ?_
    refine J_loop (T := Nat × Option Addr × Nat) (fun q => q.1 ≤ T) (fun q => [(1, .slice A tk.length cap), (4, .pointer (some ⟨b4, 0, none⟩)), (7, .pointer (some ⟨b7, 0, none⟩)), (8, .slice q.2.1 (seedL q.1).length q.2.2), (32, .int .i64 (T : Nat)), (33, .int .i64 (q.1 : Nat))]) (fun q => [ownB 89 2 q.2.1 (seedL q.1).length q.2.2 ((seedL q.1).flatMap eP), cellB b7 [.int .i64 (T : Nat), .slice none ([] : List Gm).length 0, .slice none ([] : List (Int × Int)).length 0] 25, cellB b4 [.int .i64 0, .slice none 0 0, .slice none 0 0] 25, ownB 90 4 none ([] : List Gm).length 0 (([] : List Gm).flatMap eG), ownB 89 2 none ([] : List (Int × Int)).length 0 (([] : List (Int × Int)).flatMap eP)]) (fun q => T - q.1) (0, none, 0) (Nat.zero_le _) ⟨rfl, rfl, rfl, rfl, rfl, rfl, trivial⟩ (by repeat constructor) ?_
    rintro ⟨k, A8, c8⟩ hk
    dsimp only at hk ⊢
    refine J_seq ?_
    refine J_reg ?_
    refine JP (rp2 rfl rfl (fun ρ hx hy w => ex_lssD rfl hx hy)) ?_
    refine JL_dec (fun h34 => ?_) (fun h34 => ?_)
    ·refine JL_nil ?_
     refine JQ_then_n ?_
     refine J_seq ?_
     refine J_yes rfl rfl ?_
     refine J_skip ?_
     refine JQ_then_n ?_
     refine J_seq ?_
     refine J_block ?_
     refine J_seq ?_
     refine J_reg ?_
     refine JM rfl rfl rfl rfl rfl ?_
     refine JN rfl rfl rfl rfl rfl ?_
     refine JL_nil ?_
     refine JQ_then_n ?_
     have hsl := seedL_len k
     refine J_reg ?_
     refine JM rfl rfl rfl rfl rfl ?_
     refine JM rfl rfl rfl rfl rfl ?_
     refine JL_op (wn0 rfl) (ow_callB (ec_fn rfl rfl cf_49) rfl rfl (fun w hw => seed49 k w)) (fun _ _ => ?_)
     refine JL_op (wn0 rfl) (ow_sliceC (vs := [_, _]) (ty := 89) rfl rfl (by rfl) rfl rfl (fun _ => by kernel_rfl)) (fun b39 hb39 => ?_)
     refine JL_opS (wn0 rfl) (ow_app1 EP (by decide) (((0 : Int), ((k : Nat) : Int))) Try.underlying23 Try.info89 rfl (by decide) rfl rfl rfl rfl rfl (by repeat constructor) (by rfl) (by omega) (by intro A c; repeat constructor)) (fun A40 c40 => ?_)
     refine JN rfl rfl rfl rfl rfl ?_
     refine JL_nil ?_
     refine JQ_block_n ?_
     refine JQ_then_n ?_
     refine J_keep (l' := [(1, _), (4, _), (7, _), (8, _), (32, _), (33, _)]) ⟨rfl, rfl, rfl, rfl, rfl, rfl, trivial⟩ ?_
     refine J_reg ?_
     refine JP (rp2 rfl rfl (fun ρ hx hy w => ex_add rfl hx hy (by omega))) ?_
     refine JM rfl rfl rfl rfl rfl ?_
     refine JL_nil ?_
     exact JQ_round (k + 1, A40, c40) (by dsimp only; omega) (by dsimp only; omega) ⟨rfl, rfl, rfl, (by rw [seedL_succ]; rfl), rfl, (congrArg some (by go_num)), trivial⟩ (by (try dsimp only); rw [seedL_succ]; repeat (first | exact Pk.nil _ | (refine Pk.pick (by repeat (first | exact Rm.here _ | apply Rm.there)) ?_)))
    ·refine JL_nil ?_
     refine JQ_then_n ?_
     refine J_seq ?_
     refine J_no rfl rfl ?_
     refine J_exit ?_
     refine JQ_then_x ?_
     refine JQ_then_x ?_
     refine JQ_block_y rfl ?_
     refine JQ_then_n ?_
     refine J_seq ?_
     refine J_seq ?_
     obtain rfl : T = k := by omega
     refine J_reg ?_
     refine JM rfl rfl rfl rfl rfl ?_
     refine JP (rp1 rfl (fun ρ hx w => ex_len (A := _) (c := _) rfl Try.underlying26 hx)) ?_
     refine JM rfl rfl rfl rfl rfl ?_
     refine JL_nil ?_
     refine JQ_then_n ?_
     refine J_block ?_
     refine J_loop (T := Nat × KoT) (fun q => q.1 ≤ tk.length ∧ koF (tk.drop q.1) q.2.s = koF tk ([], seedL T, []) ∧ q.2.s.1.length ≤ 16 * q.1 ∧ q.2.s.2.1.length ≤ 16 ∧ q.2.s.2.2.length ≤ 16 * q.1) (fun q => [(4, .pointer (some ⟨b4, 0, none⟩)), (7, .pointer (some ⟨b7, 0, none⟩)), (8, .slice q.2.A8 q.2.s.2.1.length q.2.c8), (42, .slice A tk.length cap), (43, .int .i64 (tk.length : Nat)), (44, .int .i64 (q.1 : Nat))]) (fun q => [cellB b7 [.int .i64 (T : Nat), .slice q.2.Ag q.2.s.1.length q.2.cg, .slice q.2.Ar q.2.s.2.2.length q.2.cr] 25, ownB 90 4 q.2.Ag q.2.s.1.length q.2.cg (q.2.s.1.flatMap eG), ownB 89 2 q.2.A8 q.2.s.2.1.length q.2.c8 (q.2.s.2.1.flatMap eP), ownB 89 2 q.2.Ar q.2.s.2.2.length q.2.cr (q.2.s.2.2.flatMap eP), cellB b4 [.int .i64 0, .slice none 0 0, .slice none 0 0] 25]) (fun q => tk.length - q.1) (0, ⟨([], seedL T, []), none, 0, A8, c8, none, 0⟩) ⟨Nat.zero_le _, rfl, Nat.zero_le _, by dsimp only; rw [seedL_len]; omega, Nat.zero_le _⟩ ⟨rfl, rfl, rfl, rfl, rfl, rfl, trivial⟩ (by repeat constructor) ?_
     rintro ⟨k, ⟨⟨g, a, r⟩, Ag, cg, A8, c8, Ar, cr⟩⟩ ⟨hk, hko, hb1, hb2, hb3⟩
     dsimp only at hk hko hb1 hb2 hb3 ⊢
     refine J_seq ?_
     refine J_reg ?_
     refine JP (rp2 rfl rfl (fun ρ hx hy w => ex_lssD rfl hx hy)) ?_
     refine JL_dec (fun h45 => ?_) (fun h45 => ?_)
     ·refine JL_nil ?_
      refine JQ_then_n ?_
      refine J_seq ?_
      refine J_yes rfl rfl ?_
      refine J_skip ?_
      refine JQ_then_n ?_
      refine J_seq ?_
      refine J_block ?_
      refine J_seq ?_
      have hlt : k < tk.length := by omega
      obtain ⟨b, p, rfl, hh⟩ := hA (by intro e; subst e; simp at hlt)
      have hnb := hbad _ (List.getElem_mem hlt)
      obtain ⟨n, hn⟩ := Int.eq_ofNat_of_zero_le (show 0 ≤ tk[k]'hlt by omega)
      have hnN : (tk[k]'hlt).toNat = n := by omega
      have hkd : tk.drop k = tk[k]'hlt :: tk.drop (k + 1) := List.drop_eq_getElem_cons hlt
      refine J_reg ?_
      refine JP (rp2 rfl rfl (fun ρ hx hy w => ex_indexE rfl hx hy Try.underlying26 sz_3 (by omega))) ?_
      refine JV (rv_hold (j := k) rfl rfl ag_3 (fun h => h) hh hlt (by omega) (by show some (Value.int IntKind.i64 _) = _; rw [hn])) ?_
      refine JN rfl rfl rfl rfl rfl ?_
      refine JL_nil ?_
      refine JQ_then_n ?_
      refine J_seq ?_
      refine J_seq ?_
      refine J_reg ?_
      refine JM rfl rfl rfl rfl rfl ?_
      refine JP (rp1 rfl (fun ρ hx w => ex_len (A := _) (c := _) rfl Try.underlying23 hx)) ?_
      refine JP (rp2 rfl rfl (fun ρ hx hy w => ex_eqlD rfl hx hy)) ?_
      refine JL_dec (fun h50 => ?_) (fun h50 => ?_)
      ·refine JL_nil ?_
       refine JQ_then_n ?_
       refine J_yes rfl rfl ?_
       refine J_seq ?_
       refine J_keep (l' := [(4, _)]) ⟨rfl, trivial⟩ ?_
       refine J_reg ?_
       refine JP (rp_buildC (fun us => [.int .i64 0, .slice none 0 0, .slice none 0 0]) rfl rfl (fun w => by kernel_rfl)) ?_
       refine JL_op (wn0 rfl) (ow_store (cs := [_, _, _]) (vs' := [_, _, _]) rfl rfl rfl rfl rfl sz_25 rfl (by repeat constructor) (by rfl) (by rfl)) (fun _ _ => ?_)
       refine JN rfl rfl rfl rfl rfl ?_
       refine JL_nil ?_
       refine JQ_then_n ?_
       refine J_ret ?_
       refine JQ_then_r ?_
       refine JQ_block_r ?_
       refine JQ_then_r ?_
       refine JQ_then_r ?_
       refine JQ_block_r ?_
       refine JQ_then_r ?_
       refine JR_two rfl (rr_agg (cs := [_, _, _]) rfl ag_25 sz_25 (by repeat constructor) (by rfl)) (rr_tmp rfl) ?_
       intro w' hw
       have e : koR (T : Nat) tk = (2, 0, [], []) := by
        rw [hK, ← hko, hkd]
        rw [show koF (tk[k]'hlt :: tk.drop (k + 1)) (g, a, r) = none from if_pos (show a.length = 0 by omega)]
       rw [e]
       exact ⟨⟨none, 0, none, 0⟩, trivial, rfl, (((hw.own0 89 2).own0 90 4).pick (by repeat constructor))⟩
      ·refine JL_nil ?_
       refine JQ_then_n ?_
       refine J_no rfl rfl ?_
       refine J_skip ?_
       refine JQ_then_n ?_
       refine J_seq ?_
       refine J_keep (l' := [(4, _), (7, _), (8, _), (11, _), (42, _), (43, _), (44, _)]) ⟨rfl, rfl, rfl, rfl, rfl, rfl, rfl, trivial⟩ ?_
       refine J_reg ?_
       refine JM rfl rfl rfl rfl rfl ?_
       refine JM rfl rfl rfl rfl rfl ?_
       refine JL_op (wn0 rfl) (ow_callL [cellB b7 [.int .i64 (T : Nat), .slice Ag g.length cg, .slice Ar r.length cr] 25, ownB 90 4 Ag g.length cg (g.flatMap eG), ownB 89 2 A8 a.length c8 (a.flatMap eP)] [ownB 89 2 Ar r.length cr (r.flatMap eP), cellB b4 [.int .i64 0, .slice none 0 0, .slice none 0 0] 25] (ec_fn rfl rfl cf_50) rfl rfl (by repeat constructor) rfl (fun _ => rfl) (fun w hw h0 => event50 (T : Nat) (.slice Ar r.length cr) g a n w b7 cg c8 Ag A8 _ h0 (by omega) (by omega))) (fun t55 ht55 => ?_)
       refine JM rfl rfl rfl rfl rfl ?_
       refine JP (rp_run1 (f := fun u => Instr.extract u 0) (fun _ => rfl) rfl (fun _ => rfl)) ?_
       refine JP (rp_run1 (f := fun u => Instr.extract u 1) (fun _ => rfl) rfl (fun _ => rfl)) ?_
       refine JN rfl rfl rfl rfl rfl ?_
       refine JN rfl rfl rfl rfl rfl ?_
       refine JL_nil ?_
       refine JQ_then_n ?_
       refine J_seq ?_
       have hel := evW_len n a.length (g, a, [])
       rw [← ht55] at hel
       dsimp only at hel
       dsimp only [EvG, List.cons_append, List.nil_append]
       simp only [List.length_nil, Nat.zero_add] at hel
       have hpos : 1 ≤ t55.s.2.1.length := by rw [ht55]; exact evW_pos n (by omega) _ _ (by dsimp only; omega)
       obtain ⟨⟨s1, s2, s3⟩, Bg, Bcg, B1, Bc1, Bo, Bco⟩ := t55
       dsimp only at *
       refine J_fact (fun hf => ?_)
       obtain ⟨b1x, rfl⟩ := own_some (A := B1) hf (by repeat constructor) (by omega)
       refine J_keep (l' := [(4, _), (7, _), (12, _), (13, _), (42, _), (43, _), (44, _)]) ⟨rfl, rfl, rfl, rfl, rfl, rfl, rfl, trivial⟩ ?_
       refine J_reg ?_
       refine JP (rp_fieldC (off' := 2) rfl rfl fa_25_2 rfl) ?_
       refine JV (rv_cell rfl rfl ag_23 (by repeat constructor) (by rfl)) ?_
       refine JM rfl rfl rfl rfl rfl ?_
       refine JL_opS (wn0 rfl) (ow_app (M := s2) EP (by decide) Try.underlying23 Try.info89 rfl (by decide) rfl rfl rfl rfl rfl rfl (fun w hw => news_own (ty := 89) (k := 2) (m := s2.length) (c := Bc1) (by repeat constructor) hw) (by omega) (by intro A c; repeat constructor)) (fun A61 c61 => ?_)
       refine JP (rp_fieldC (off' := 2) rfl rfl fa_25_2 rfl) ?_
       refine JL_op (wn0 rfl) (ow_store (cs := [_]) (vs' := [_, _, _]) rfl rfl rfl rfl rfl sz_23 rfl (by repeat constructor) (by rfl) (by rfl)) (fun _ _ => ?_)
       refine JL_nil ?_
       refine JQ_then_n ?_
       refine J_keep (l' := [(4, _), (7, _), (13, _), (42, _), (43, _), (44, _)]) ⟨rfl, rfl, rfl, rfl, rfl, rfl, trivial⟩ ?_
       refine J_reg ?_
       refine JM rfl rfl rfl rfl rfl ?_
       refine JN rfl rfl rfl rfl rfl ?_
       refine JL_nil ?_
       refine JQ_block_n ?_
       refine JQ_then_n ?_
       refine J_reg ?_
       refine JP (rp2 rfl rfl (fun ρ hx hy w => ex_add rfl hx hy (by omega))) ?_
       refine JM rfl rfl rfl rfl rfl ?_
       refine JL_nil ?_
       exact JQ_round (k + 1, ⟨(s1, s3, r ++ s2), Bg, Bcg, Bo, Bco, A61, c61⟩) ⟨by dsimp only; omega, by dsimp only; rw [← hko, hkd]; show _ = if a.length = 0 then _ else _; rw [if_neg (by omega), hnN, ← ht55], by dsimp only; omega, by dsimp only; omega, by dsimp only; rw [List.length_append]; omega⟩ (by dsimp only; omega) ⟨rfl, rfl, rfl, rfl, rfl, (congrArg some (by go_num)), trivial⟩ (by repeat constructor)
     ·refine JL_nil ?_
      refine JQ_then_n ?_
      refine J_seq ?_
      refine J_no rfl rfl ?_
      refine J_exit ?_
      refine JQ_then_x ?_
      refine JQ_then_x ?_
      refine JQ_block_y rfl ?_
      refine JQ_then_n ?_
      refine J_seq ?_
      obtain rfl : k = tk.length := by omega
      have hkd : koF (tk.drop tk.length) (g, a, r) = some (g, a, r) := by rw [List.drop_length]; rfl
      refine J_fact (fun hf => ?_)
      have ho := own_or (A := A8) (m := a.length) (c := c8) hf (by repeat constructor)
      have hrc : r.length ≤ cr := (own_cap (A := Ar) (m := r.length) (c := cr) hf (by repeat constructor)).1
      refine J_keep (l' := [(4, _), (7, _), (8, _)]) ⟨rfl, rfl, rfl, trivial⟩ ?_
      refine J_reg ?_
      refine JM rfl rfl rfl rfl rfl ?_
      refine JL_op (wn0 rfl) (ow_callL [ownB 89 2 A8 a.length c8 (a.flatMap eP)] [cellB b7 [.int .i64 (T : Nat), .slice Ag g.length cg, .slice Ar r.length cr] 25, ownB 90 4 Ag g.length cg (g.flatMap eG), ownB 89 2 Ar r.length cr (r.flatMap eP), cellB b4 [.int .i64 0, .slice none 0 0, .slice none 0 0] 25] (ec_fn rfl rfl cf_51) rfl rfl (by repeat constructor) rfl (fun _ => rfl) (fun w hw h0 => reverse51 a w A8 c8 _ h0 (by omega))) (fun _ _ => ?_)
      refine JL_nil ?_
      refine JQ_then_n ?_
      refine J_seq ?_
      rcases ho with ⟨rfl, ha0, rfl⟩ | ⟨b8, rfl⟩
      ·obtain rfl : a = [] := List.length_eq_zero_iff.1 ha0
       refine J_reg ?_
       refine JP (rp_fieldC (off' := 2) rfl rfl fa_25_2 rfl) ?_
       refine JV (rv_cell rfl rfl ag_23 (by repeat constructor) (by rfl)) ?_
       refine JM rfl rfl rfl rfl rfl ?_
       refine JV (rv_app0 Try.underlying23 sz_89 rfl rfl rfl hrc) ?_
       refine JP (rp_fieldC (off' := 2) rfl rfl fa_25_2 rfl) ?_
       refine JL_op (wn0 rfl) (ow_store (cs := [_]) (vs' := [_, _, _]) rfl rfl rfl rfl rfl sz_23 rfl (by repeat constructor) (by rfl) (by rfl)) (fun _ _ => ?_)
       refine JL_nil ?_
       refine JQ_then_n ?_
       refine J_seq ?_
       refine J_seq ?_
       refine J_keep (l' := [(4, _), (7, _)]) ⟨rfl, rfl, trivial⟩ ?_
       refine J_reg ?_
       refine JP (rp_fieldC (off' := 1) rfl rfl fa_25_1 rfl) ?_
       refine JV (rv_cell rfl rfl ag_22 (by repeat constructor) (by rfl)) ?_
       refine JP (rp1 rfl (fun ρ hx w => ex_len (A := _) (c := _) rfl Try.underlying22 hx)) ?_
       refine JL_op (wn0 rfl) (ow_callP (ec_fn rfl rfl cf_47) rfl rfl (fun w hw => within47 g.length 1 64 w)) (fun _ _ => ?_)
       refine JL_bool (fun h75 => ?_) (fun h75 => ?_)
       ·refine JP (rp1 rfl (fun ρ hx w => ex_not rfl hx)) ?_
        refine JL_nil ?_
        refine JQ_then_n ?_
        refine J_no rfl rfl ?_
        refine J_skip ?_
        refine JQ_then_n ?_
        refine J_seq ?_
        refine J_keep (l' := [(4, _), (7, _)]) ⟨rfl, rfl, trivial⟩ ?_
        refine J_reg ?_
        refine JV (rv_agg (cs := [_, _, _]) rfl rfl ag_25 sz_25 (by repeat constructor) (by rfl)) ?_
        refine JL_op (wn0 rfl) (ow_store (cs := [_, _, _]) (vs' := [_, _, _]) rfl rfl rfl rfl rfl sz_25 rfl (by repeat constructor) (by rfl) (by rfl)) (fun _ _ => ?_)
        refine JN rfl rfl rfl rfl rfl ?_
        refine JL_nil ?_
        refine JQ_then_n ?_
        refine J_ret ?_
        refine JR_two rfl (rr_agg (cs := [_, _, _]) rfl ag_25 sz_25 (by repeat constructor) (by rfl)) (rr_tmp rfl) ?_
        intro w' hw
        have e : koR (T : Nat) tk = (0, ((T : Nat) : Int), g, r) := by
         rw [hK, ← hko, hkd]
         exact (if_pos (of_decide_eq_true h75)).trans (by rw [List.reverse_nil, List.append_nil])
        rw [e]
        exact ⟨⟨Ag, cg, Ar, cr⟩, trivial, rfl, hw.pick (by repeat constructor)⟩
       ·refine JP (rp1 rfl (fun ρ hx w => ex_not rfl hx)) ?_
        refine JL_nil ?_
        refine JQ_then_n ?_
        refine J_yes rfl rfl ?_
        refine J_seq ?_
        refine J_keep (l' := [(4, _)]) ⟨rfl, trivial⟩ ?_
        refine J_reg ?_
        refine JP (rp_buildC (fun us => [.int .i64 0, .slice none 0 0, .slice none 0 0]) rfl rfl (fun w => by kernel_rfl)) ?_
        refine JL_op (wn0 rfl) (ow_store (cs := [_, _, _]) (vs' := [_, _, _]) rfl rfl rfl rfl rfl sz_25 rfl (by repeat constructor) (by rfl) (by rfl)) (fun _ _ => ?_)
        refine JN rfl rfl rfl rfl rfl ?_
        refine JL_nil ?_
        refine JQ_then_n ?_
        refine J_ret ?_
        refine JQ_then_r ?_
        refine JR_two rfl (rr_agg (cs := [_, _, _]) rfl ag_25 sz_25 (by repeat constructor) (by rfl)) (rr_tmp rfl) ?_
        intro w' hw
        have e : koR (T : Nat) tk = (2, 0, [], []) := by
         rw [hK, ← hko, hkd]
         exact if_neg (of_decide_eq_false h75)
        rw [e]
        exact ⟨⟨none, 0, none, 0⟩, trivial, rfl, (((hw.own0 89 2).own0 90 4).pick (by repeat constructor))⟩
      ·refine J_reg ?_
       refine JP (rp_fieldC (off' := 2) rfl rfl fa_25_2 rfl) ?_
       refine JV (rv_cell rfl rfl ag_23 (by repeat constructor) (by rfl)) ?_
       refine JM rfl rfl rfl rfl rfl ?_
       refine JL_opS (wn0 rfl) (ow_app (M := a.reverse) EP (by decide) Try.underlying23 Try.info89 rfl (by decide) rfl rfl rfl rfl rfl (List.length_reverse).symm (fun w hw => news_own (ty := 89) (k := 2) (m := a.length) (c := c8) (by repeat constructor) hw) (by rw [List.length_reverse]; omega) (by intro A c; repeat constructor)) (fun A70 c70 => ?_)
       refine JP (rp_fieldC (off' := 2) rfl rfl fa_25_2 rfl) ?_
       refine JL_op (wn0 rfl) (ow_store (cs := [_]) (vs' := [_, _, _]) rfl rfl rfl rfl rfl sz_23 rfl (by repeat constructor) (by rfl) (by rfl)) (fun _ _ => ?_)
       refine JL_nil ?_
       refine JQ_then_n ?_
       refine J_seq ?_
       refine J_seq ?_
       refine J_keep (l' := [(4, _), (7, _)]) ⟨rfl, rfl, trivial⟩ ?_
       refine J_reg ?_
       refine JP (rp_fieldC (off' := 1) rfl rfl fa_25_1 rfl) ?_
       refine JV (rv_cell rfl rfl ag_22 (by repeat constructor) (by rfl)) ?_
       refine JP (rp1 rfl (fun ρ hx w => ex_len (A := _) (c := _) rfl Try.underlying22 hx)) ?_
       refine JL_op (wn0 rfl) (ow_callP (ec_fn rfl rfl cf_47) rfl rfl (fun w hw => within47 g.length 1 64 w)) (fun _ _ => ?_)
       refine JL_bool (fun h75 => ?_) (fun h75 => ?_)
       ·refine JP (rp1 rfl (fun ρ hx w => ex_not rfl hx)) ?_
        refine JL_nil ?_
        refine JQ_then_n ?_
        refine J_no rfl rfl ?_
        refine J_skip ?_
        refine JQ_then_n ?_
        refine J_seq ?_
        refine J_keep (l' := [(4, _), (7, _)]) ⟨rfl, rfl, trivial⟩ ?_
        refine J_reg ?_
        refine JV (rv_agg (cs := [_, _, _]) rfl rfl ag_25 sz_25 (by repeat constructor) (by rfl)) ?_
        refine JL_op (wn0 rfl) (ow_store (cs := [_, _, _]) (vs' := [_, _, _]) rfl rfl rfl rfl rfl sz_25 rfl (by repeat constructor) (by rfl) (by rfl)) (fun _ _ => ?_)
        refine JN rfl rfl rfl rfl rfl ?_
        refine JL_nil ?_
        refine JQ_then_n ?_
        refine J_ret ?_
        refine JR_two rfl (rr_agg (cs := [_, _, _]) rfl ag_25 sz_25 (by repeat constructor) (by rfl)) (rr_tmp rfl) ?_
        intro w' hw
        have e : koR (T : Nat) tk = (0, ((T : Nat) : Int), g, r ++ a.reverse) := by
         rw [hK, ← hko, hkd]
         exact if_pos (of_decide_eq_true h75)
        rw [e]
        exact ⟨⟨Ag, cg, A70, c70⟩, trivial, rfl, hw.pick (by repeat constructor)⟩
       ·refine JP (rp1 rfl (fun ρ hx w => ex_not rfl hx)) ?_
        refine JL_nil ?_
        refine JQ_then_n ?_
        refine J_yes rfl rfl ?_
        refine J_seq ?_
        refine J_keep (l' := [(4, _)]) ⟨rfl, trivial⟩ ?_
        refine J_reg ?_
        refine JP (rp_buildC (fun us => [.int .i64 0, .slice none 0 0, .slice none 0 0]) rfl rfl (fun w => by kernel_rfl)) ?_
        refine JL_op (wn0 rfl) (ow_store (cs := [_, _, _]) (vs' := [_, _, _]) rfl rfl rfl rfl rfl sz_25 rfl (by repeat constructor) (by rfl) (by rfl)) (fun _ _ => ?_)
        refine JN rfl rfl rfl rfl rfl ?_
        refine JL_nil ?_
        refine JQ_then_n ?_
        refine J_ret ?_
        refine JQ_then_r ?_
        refine JR_two rfl (rr_agg (cs := [_, _, _]) rfl ag_25 sz_25 (by repeat constructor) (by rfl)) (rr_tmp rfl) ?_
        intro w' hw
        have e : koR (T : Nat) tk = (2, 0, [], []) := by
         rw [hK, ← hko, hkd]
         exact if_neg (of_decide_eq_false h75)
        rw [e]
        exact ⟨⟨none, 0, none, 0⟩, trivial, rfl, (((hw.own0 89 2).own0 90 4).pick (by repeat constructor))⟩
  ·refine JPg (rp1 rfl (fun ρ hx w => ex_not rfl hx)) ?_
   refine JP (rp_pickF rfl rfl rfl) ?_
   refine JM rfl rfl rfl rfl rfl ?_
   refine JF ?_
   refine JF ?_
   refine JF ?_
   refine JP (rp_pickT rfl rfl rfl) ?_
   refine JL_nil ?_
   refine JQ_then_n ?_
   refine J_yes rfl rfl ?_
   refine J_seq ?_
   refine J_keep (l' := [(4, _)]) ⟨rfl, trivial⟩ ?_
   refine J_reg ?_
   refine JP (rp_buildC (fun us => [.int .i64 0, .slice none 0 0, .slice none 0 0]) rfl rfl (fun w => by kernel_rfl)) ?_
   refine JL_op (wn0 rfl) (ow_store (cs := [_, _, _]) (vs' := [_, _, _]) rfl rfl rfl rfl rfl sz_25 rfl (by repeat constructor) (by rfl) (by rfl)) (fun _ _ => ?_)
   refine JN rfl rfl rfl rfl rfl ?_
   refine JL_nil ?_
   refine JQ_then_n ?_
   refine J_ret ?_
   refine JQ_then_r ?_
   refine JR_two rfl (rr_agg (cs := [_, _, _]) rfl ag_25 sz_25 (by repeat constructor) (by rfl)) (rr_tmp rfl) ?_
   intro w' hw
   have e : koR T tk = (4, 0, [], []) := by unfold koR; rw [if_pos (.inr (.inl (of_decide_eq_false h21)))]
   rw [e]
   exact ⟨⟨none, 0, none, 0⟩, trivial, rfl, (((hw.own0 89 2).own0 90 4).pick (by repeat constructor))⟩
 ·refine JP (rp1 rfl (fun ρ hx w => ex_not rfl hx)) ?_
  refine JM rfl rfl rfl rfl rfl ?_
  refine JF ?_
  refine JF ?_
  refine JF ?_
  refine JF ?_
  refine JP (rp_pickT rfl rfl rfl) ?_
  refine JM rfl rfl rfl rfl rfl ?_
  refine JF ?_
  refine JF ?_
  refine JF ?_
  refine JP (rp_pickT rfl rfl rfl) ?_
  refine JL_nil ?_
  refine JQ_then_n ?_
  refine J_yes rfl rfl ?_
  refine J_seq ?_
  refine J_keep (l' := [(4, _)]) ⟨rfl, trivial⟩ ?_
  refine J_reg ?_
  refine JP (rp_buildC (fun us => [.int .i64 0, .slice none 0 0, .slice none 0 0]) rfl rfl (fun w => by kernel_rfl)) ?_
  refine JL_op (wn0 rfl) (ow_store (cs := [_, _, _]) (vs' := [_, _, _]) rfl rfl rfl rfl rfl sz_25 rfl (by repeat constructor) (by rfl) (by rfl)) (fun _ _ => ?_)
  refine JN rfl rfl rfl rfl rfl ?_
  refine JL_nil ?_
  refine JQ_then_n ?_
  refine J_ret ?_
  refine JQ_then_r ?_
  refine JR_two rfl (rr_agg (cs := [_, _, _]) rfl ag_25 sz_25 (by repeat constructor) (by rfl)) (rr_tmp rfl) ?_
  intro w' hw
  have e : koR T tk = (4, 0, [], []) := by unfold koR; rw [if_pos (.inl (of_decide_eq_false h16))]
  rw [e]
  exact ⟨⟨none, 0, none, 0⟩, trivial, rfl, (((hw.own0 89 2).own0 90 4).pick (by repeat constructor))⟩
end Go.Proofs.Ytlfbbofcnonhdaa
