import Derived.Test.YtlfbbofcnonhdaaSa
import Derived.Test.YtlfbbofcnonhdaaRd
/- Contracts: apart. -/
namespace Go.Proofs.Ytlfbbofcnonhdaa
open Go Go.RowKit Go.Proofs

/-! A number for each average. -/
def fct : Nat → Nat
 | 0 => 1
 | n + 1 => (n + 1) * fct n
theorem fct_pos : ∀ n, 0 < fct n
 | 0 => Nat.one_pos
 | n + 1 => Nat.mul_pos (Nat.succ_pos n) (fct_pos n)
theorem fct_dvd : ∀ n d, 1 ≤ d → d ≤ n → d ∣ fct n
 | 0, d, h1, h2 => by omega
 | n + 1, d, h1, h2 => by
  unfold fct
  by_cases e : d = n + 1
  ·subst e; exact Nat.dvd_mul_right _ _
  ·exact Nat.dvd_trans (fct_dvd n d h1 (by omega)) (Nat.dvd_mul_left _ _)
def bigF (N : Nat) : Int := ((fct N : Nat) : Int)
/-- The team's average, as a number; none comes behind all. -/
def msK (l : List Re) (a : Int) : Int := if (rowN l a).draws = 0 then 60000001 * bigF 600 else (rowN l a).len * (bigF 600 / (rowN l a).draws)
theorem bigF_dvd {d : Int} (h : 1 ≤ d ∧ d ≤ 600) : d * (bigF 600 / d) = bigF 600 := by
 obtain ⟨n, rfl⟩ := Int.eq_ofNat_of_zero_le (show 0 ≤ d by omega)
 have := fct_dvd 600 n (by omega) (by omega)
 unfold bigF
 exact Int.mul_ediv_cancel' (Int.natCast_dvd_natCast.2 this)
theorem bigF_pos : 0 < bigF 600 := by unfold bigF; have := fct_pos 600; omega
theorem frac_cmp {x y d e F p q : Int} (hp : d * p = F) (hq : e * q = F) (hd : 0 < d) (he : 0 < e) (hF : 0 < F) : (x * e < y * d ↔ x * p < y * q) ∧ (x * e = y * d ↔ x * p = y * q) := by
 have hpp : 0 < p := by
  rcases Int.lt_or_le 0 p with h | h
  ·exact h
  ·have := Int.mul_nonpos_of_nonneg_of_nonpos (Int.le_of_lt hd) h; omega
 have hqq : 0 < q := by
  rcases Int.lt_or_le 0 q with h | h
  ·exact h
  ·have := Int.mul_nonpos_of_nonneg_of_nonpos (Int.le_of_lt he) h; omega
 have e1 : (x * e) * (p * q) = (x * p) * F := by rw [← hq]; grind
 have e2 : (y * d) * (p * q) = (y * q) * F := by rw [← hp]; grind
 have hpq : 0 < p * q := Int.mul_pos hpp hqq
 constructor
 ·constructor
  ·intro h
   have := Int.mul_lt_mul_of_pos_right h hpq
   rw [e1, e2] at this
   exact Int.lt_of_mul_lt_mul_right this (Int.le_of_lt hF)
  ·intro h
   have := Int.mul_lt_mul_of_pos_right h hF
   rw [← e1, ← e2] at this
   exact Int.lt_of_mul_lt_mul_right this (Int.le_of_lt hpq)
 ·constructor
  ·intro h
   have : (x * p) * F = (y * q) * F := by rw [← e1, ← e2, h]
   exact Int.eq_of_mul_eq_mul_right (by omega) this
  ·intro h
   have : (x * e) * (p * q) = (y * d) * (p * q) := by rw [e1, e2, h]
   exact Int.eq_of_mul_eq_mul_right (by omega) this
theorem cmpI_lt (x y : Int) : (cmpI x y < 0 ↔ x < y) ∧ (cmpI x y = 0 ↔ x = y) := by
 unfold cmpI; split <;> (try split) <;> omega
theorem msK_lt (l : List Re) (hl : l.length ≤ 300) (hv : ∀ x ∈ l, ReB x) (a : Int) (h : (rowN l a).draws ≠ 0) : msK l a < 60000001 * bigF 600 := by
 have h1 := rowN_bd l a hv
 have h2 := bigF_dvd (d := (rowN l a).draws) (by omega)
 have h3 := bigF_pos
 unfold msK
 rw [if_neg h]
 have h4 : 0 ≤ bigF 600 / (rowN l a).draws := Int.ediv_nonneg (by omega) (by omega)
 have h5 : bigF 600 / (rowN l a).draws ≤ bigF 600 := Int.ediv_le_self _ (by omega)
 have h6 : (rowN l a).len * (bigF 600 / (rowN l a).draws) ≤ 60000000 * bigF 600 := Int.mul_le_mul (by omega) h5 h4 (by omega)
 omega
theorem ms_cvk (l : List Re) (hl : l.length ≤ 300) (hv : ∀ x ∈ l, ReB x) (dom : Int → Prop) : CvK (msC l) (msK l) dom := by
 intro a b _ _
 have h1 := rowN_bd l a hv
 have h2 := rowN_bd l b hv
 unfold msC
 by_cases ha : (rowN l a).draws = 0
 ·rw [if_pos (.inl ha)]
  by_cases hb : (rowN l b).draws = 0
  ·have e1 : msK l a = 60000001 * bigF 600 := by unfold msK; rw [if_pos ha]
   have e2 : msK l b = 60000001 * bigF 600 := by unfold msK; rw [if_pos hb]
   rw [e1, e2]; omega
  ·have e1 : msK l a = 60000001 * bigF 600 := by unfold msK; rw [if_pos ha]
   have := msK_lt l hl hv b hb
   omega
 ·by_cases hb : (rowN l b).draws = 0
  ·rw [if_pos (.inr hb)]
   have e1 : msK l b = 60000001 * bigF 600 := by unfold msK; rw [if_pos hb]
   have := msK_lt l hl hv a ha
   omega
  ·rw [if_neg (by omega)]
   have hc := frac_cmp (x := (rowN l a).len) (y := (rowN l b).len) (bigF_dvd (d := (rowN l a).draws) (by omega)) (bigF_dvd (d := (rowN l b).draws) (by omega)) (by omega) (by omega) bigF_pos
   have e1 : msK l a = (rowN l a).len * (bigF 600 / (rowN l a).draws) := by unfold msK; rw [if_neg ha]
   have e2 : msK l b = (rowN l b).len * (bigF 600 / (rowN l b).draws) := by unfold msK; rw [if_neg hb]
   rw [e1, e2]
   have hi := cmpI_lt ((rowN l a).len * (rowN l b).draws) ((rowN l b).len * (rowN l a).draws)
   exact ⟨hi.1.trans hc.1, hi.2.trans hc.2⟩
/-- Teams' wins in the games among them. -/
def mtW (l : List Re) (g : List Int) (a : Int) : Int := ((mtA (wonM l) g g.length).1 a).getD 0
def mtAsk (l : List Re) (g : List Int) : Bool := (mtA (wonM l) g g.length).2 && g.any (askP (mtA (wonM l) g g.length).1 g)
/-- Teams in groups of those that are not told apart. -/
def apP (l : List Re) : Nat → List Int → List (List Int)
 | 0, g => [g]
 | f + 1, g => if g.length < 2 then [g] else if mtAsk l g = true then (grps (fun a => -(mtW l g a)) g).flatMap (apP l f) else grps (msK l) g
theorem mtA_bd (W : Int × Int → Option Int) (g : List Int) : ∀ k x, k ≤ g.length → k ≤ 20 → 0 ≤ ((mtA W g k).1 x).getD 0 ∧ ((mtA W g k).1 x).getD 0 ≤ 20 * k
 | 0, x, _, _ => by simp [mtA]
 | k + 1, x, hk, h20 => by
  have ih := mtA_bd W g k
  show 0 ≤ ((mtJ W g k k (mtA W g k)).1 x).getD 0 ∧ ((mtJ W g k k (mtA W g k)).1 x).getD 0 ≤ _
  have : ∀ j, j ≤ k → ∀ x, 0 ≤ ((mtJ W g k j (mtA W g k)).1 x).getD 0 ∧ ((mtJ W g k j (mtA W g k)).1 x).getD 0 ≤ 20 * k + j := by
   intro j
   induction j with
   | zero => intro _ x; have := ih x (by omega) (by omega); dsimp only [mtJ, List.take_zero, List.foldl_nil]; omega
   | succ j ihj =>
    intro hj x
    rw [mtJ_succ W g k j _ (by omega)]
    have h1 := ihj (by omega)
    unfold stepM
    split
    ·rename_i v _
     show 0 ≤ (upd _ _ _ x).getD 0 ∧ (upd _ _ _ x).getD 0 ≤ _
     unfold upd
     split
     ·have := h1 v; simp only [Option.getD_some]; omega
     ·have := h1 x; omega
    ·have := h1 x; dsimp only; omega
  have := this k (Nat.le_refl _) x
  omega
theorem grps_len {key : Int → Int} : ∀ (f : Nat) (l : List Int), (grpF key f l).length ≤ f
 | 0, _ => Nat.le_refl _
 | f + 1, l => by
  unfold grpF
  split
  ·exact Nat.zero_le _
  ·rw [List.length_cons]
   have := grps_len (key := key) f (l.filter (fun x => !(l.all fun y => decide (key x ≤ key y))))
   omega
theorem Grp.flat_len {key : Int → Int} {g : List Int} {D : List (List Int)} (h : Grp key g D) (hg : g.Pairwise (· < ·)) : D.flatten.length = g.length := by
 have n1 : D.flatten.Nodup := by
  rw [List.Nodup, List.pairwise_flatten]
  refine ⟨fun d hd => (h.asc d hd).imp (fun h => by omega), h.lt.imp (fun h x hx y hy => ?_)⟩
  have := h x hx y hy
  intro e; subst e; omega
 have n2 : g.Nodup := hg.imp (fun h => by omega)
 apply List.Perm.length_eq
 rw [List.perm_iff_count]
 intro x
 rw [n1.count, n2.count]
 have : x ∈ D.flatten ↔ x ∈ g := by rw [List.mem_flatten, h.mem]
 simp only [this]
theorem Grp.two {key : Int → Int} {g : List Int} {D : List (List Int)} (h : Grp key g D) {a b : Int} (ha : a ∈ g) (hb : b ∈ g) (hn : key a ≠ key b) : D.length ≠ 1 := by
 intro e
 obtain ⟨d, rfl⟩ := List.length_eq_one_iff.1 e
 obtain ⟨d1, h1, h2⟩ := (h.mem a).1 ha
 obtain ⟨d2, h3, h4⟩ := (h.mem b).1 hb
 rw [List.mem_singleton] at h1 h3
 subst h1; subst h3
 exact hn (h.same _ (by simp) _ h2 _ h4)
theorem ask_two {l : List Re} {g : List Int} (h : mtAsk l g = true) : ∃ a ∈ g, ∃ b ∈ g, -(mtW l g a) ≠ -(mtW l g b) := by
 unfold mtAsk at h
 rw [Bool.and_eq_true] at h
 obtain ⟨a, ha, h2⟩ := List.any_eq_true.1 h.2
 refine ⟨a, ha, g.getD 0 0, ?_, ?_⟩
 ·cases g with
  | nil => cases ha
  | cons b g => simp
 ·unfold askP at h2
  have := of_decide_eq_true h2
  unfold mtW; omega
theorem grps_part {key : Int → Int} {g d : List Int} (hg : g.Pairwise (· < ·)) (hd : d ∈ grps key g) : d ≠ [] ∧ d.Pairwise (· < ·) ∧ (∀ x ∈ d, x ∈ g) ∧ d.length ≤ g.length := by
 have h := grps_ok key hg
 refine ⟨h.ne d hd, h.asc d hd, fun x hx => (h.mem x).2 ⟨d, hd, hx⟩, ?_⟩
 rw [← h.flat_len hg]
 exact flat_mem_len hd
theorem grps_one {key : Int → Int} {g : List Int} (hne : g ≠ []) (hg : g.Pairwise (· < ·)) : 1 ≤ (grps key g).length := by
 have h := (grps_ok key hg).flat_len hg
 have h0 := List.length_pos_iff.2 hne
 cases e : grps key g with
 | nil => rw [e] at h; simp at h; omega
 | cons a b => simp
theorem apP_len (l : List Re) : ∀ (f : Nat) (g : List Int), g ≠ [] → g.Pairwise (· < ·) → (apP l f g).length ≤ g.length ∧ 1 ≤ (apP l f g).length
 | 0, g, h, _ => by have h1 := List.length_pos_iff.2 h; exact ⟨by show 1 ≤ g.length; omega, Nat.le_refl _⟩
 | f + 1, g, h, hg => by
  have h0 := List.length_pos_iff.2 h
  unfold apP
  split
  ·exact ⟨by show 1 ≤ g.length; omega, Nat.le_refl _⟩
  ·split
   ·have hall : ∀ d ∈ grps (fun a => -(mtW l g a)) g, (apP l f d).length ≤ d.length ∧ 1 ≤ (apP l f d).length := fun d hd => apP_len l f d (grps_part hg hd).1 (grps_part hg hd).2.1
    have hfull := (grps_ok (fun a => -(mtW l g a)) hg).flat_len hg
    generalize grps (fun a => -(mtW l g a)) g = D at hfull hall
    have hsum : ∀ D : List (List Int), (∀ d ∈ D, (apP l f d).length ≤ d.length ∧ 1 ≤ (apP l f d).length) → (D.flatMap (apP l f)).length ≤ D.flatten.length ∧ (D ≠ [] → 1 ≤ (D.flatMap (apP l f)).length) := by
     intro D hD
     induction D with
     | nil => exact ⟨Nat.le_refl _, fun h => absurd rfl h⟩
     | cons e D ih =>
      have h1 := hD e (by simp)
      have h2 := ih (fun d hd => hD d (by simp [hd]))
      rw [List.flatMap_cons, List.flatten_cons, List.length_append, List.length_append]
      exact ⟨by omega, fun _ => by omega⟩
    obtain ⟨h1, h2⟩ := hsum D hall
    exact ⟨by omega, h2 (by intro e; subst e; simp at hfull; omega)⟩
   ·exact ⟨grps_len _ _, grps_one h hg⟩
theorem flatTakeP_len (l : List Re) (f : Nat) : ∀ (D : List (List Int)) (i : Nat), (∀ d ∈ D, d ≠ [] ∧ d.Pairwise (· < ·)) → ((D.take i).flatMap (apP l f)).length ≤ D.flatten.length
 | [], i, _ => by simp
 | e :: D, 0, _ => by simp
 | e :: D, i + 1, h => by
  rw [List.take_succ_cons, List.flatMap_cons, List.flatten_cons, List.length_append, List.length_append]
  have h1 := (apP_len l f e (h e (by simp)).1 (h e (by simp)).2).1
  have h2 := flatTakeP_len l f D i (fun d hd => h d (by simp [hd]))
  omega
section
open Go
variable {P : Program} {n : Nat} {o : Oper} {l : Sl}
theorem ec_valE {f : FuncId} {g : Operand} {fs cs args : Array Value} {xs : List Operand} {ts : Array TypeId} {vs : List Value} (ho : o.op = .call { callee := .value g, args := xs.toArray, argTypes := ts }) (hg : evl l g = some (.func (.func f) fs cs)) (hx : evs l xs = some vs) (hf : ∀ args w, (callFunc f args).run P w = .ok (.enter f args) w) (he : (fs ++ vs.toArray ++ cs).toList = args.toList) : EC P n l o f args := by
 have : fs ++ vs.toArray ++ cs = args := Array.toList_inj.1 he
 rw [← this]
 exact ec_val ho hg hx hf
end

set_option maxRecDepth 100000 in
set_option maxHeartbeats 4000000 in
theorem apart88 (T : Nat) (l : List Re) (hT : T ≤ 16) (hl : l.length ≤ 300) (hv : ∀ x ∈ l, ReB x) (hvb : ∀ x ∈ l, vldB T x = true) : ∀ (f : Nat) (g : List Int) (A1 : Option Addr) (cap1 : Nat) (w : World) (sb rb mb : Nat) (_ : StF T l w sb rb mb) (_ : Arr 1 eI w (.slice A1 g.length cap1) g) (_ : g.length ≤ f) (_ : g.length ≤ 19) (_ : g ≠ []) (_ : g.Pairwise (· < ·)) (_ : ∀ x ∈ g, 0 ≤ x ∧ x < T), Calls Try.prog 88 #[.pointer (some ⟨sb, 0, none⟩), .slice A1 g.length cap1] w (RetD 26 1 eI (slsB 1 eI [⟨A1, g.length, cap1, g⟩]).foot (apP l f g) w)
 | 0, g, _, _, _, _, _, _, _, _, h, _, hne, _, _ => absurd (List.length_eq_zero_iff.1 (by omega)) hne
 | f + 1, g, A1, cap1, w, sb, rb, mb, hst, hg, hgf, hgl, hne, hinc, hgd => by
  refine J_enter (fun _ => False) (vs := [.pointer (some ⟨sb, 0, none⟩), .slice A1 g.length cap1]) (k := 40) (l := [(0, .pointer (some ⟨sb, 0, none⟩)), (1, .slice A1 g.length cap1)]) Try.func88 rfl rfl Try.ntmps88 rfl rfl (Wd.start _) ?_
  refine J_seq ?_
  refine J_reg ?_
  refine JN rfl rfl rfl rfl rfl ?_
  refine JL_nil ?_
  refine JQ_then_n ?_
  refine J_seq ?_
  refine J_seq ?_
  refine J_reg ?_
  refine JM rfl rfl rfl rfl rfl ?_
  refine JP (rp1 rfl (fun ρ hx w => ex_len (A := _) (c := _) rfl Try.underlying26 hx)) ?_
  refine JP (rp2 rfl rfl (fun ρ hx hy w => ex_lssD rfl hx hy)) ?_
  refine JL_dec (fun h11 => ?_) (fun h11 => ?_)
  ·refine JL_nil ?_
   refine JQ_then_n ?_
   refine J_yes rfl rfl ?_
   refine J_seq ?_
   refine J_keep (l' := [(1, _)]) ⟨rfl, trivial⟩ ?_
   refine J_reg ?_
   refine JM rfl rfl rfl rfl rfl ?_
   refine JL_op (wn0 rfl) (ow_sliceC (vs := [_]) (ty := 26) rfl rfl (by rfl) rfl rfl (fun _ => by kernel_rfl)) (fun b13 hb13 => ?_)
   refine JN rfl rfl rfl rfl rfl ?_
   refine JL_nil ?_
   refine JQ_then_n ?_
   refine J_ret ?_
   refine JQ_then_r ?_
   refine JR_one rfl (rr_tmp rfl) ?_
   intro w' hw
   have e : apP l (f + 1) g = [g] := by unfold apP; rw [if_pos (by omega)]
   rw [e]
   refine ⟨_, _, [⟨A1, g.length, cap1, g⟩], rfl, rfl, ?_, fun p hp hn b o e => .inr ⟨p, hp, hn, o, e⟩⟩
   exact (((hw.pick (H' := [cellB b13 [.slice A1 g.length cap1] 26]) (by repeat constructor)).asOwn (kk := 1) (m := 1) (At.here _) rfl (by omega)).given (by decide) EI (fun _ h => h) hg).pick (by repeat constructor)
  ·refine JL_nil ?_
   refine JQ_then_n ?_
   refine J_no rfl rfl ?_
   refine J_skip ?_
   refine JQ_then_n ?_
   refine J_seq ?_
   refine J_keep (l' := [(0, _), (1, _)]) ⟨rfl, rfl, trivial⟩ ?_
   refine J_reg ?_
   refine JM rfl rfl rfl rfl rfl ?_
   refine JM rfl rfl rfl rfl rfl ?_
   refine JL_op (wn0 rfl) (ow_callR (ec_fn rfl rfl cf_96) rfl rfl (fun _ => rfl) (fun w hw => meetings96 T l g _ w sb rb mb (hst.up hw.bel) (hg.up EI hw.bel) hT (by omega) (fun x hx => by have := hgd x hx; omega) hvb)) (fun t16 ht16 => ?_)
   refine JL_op (wn0 rfl) (ow_alloc rfl rfl zv_146 rfl rfl) (fun b5 hb5 => ?_)
   refine JL_op (wn0 rfl) (ow_store (cs := [_, _]) (vs' := [_, _]) rfl rfl rfl rfl rfl sz_146 rfl (by repeat constructor) (by rfl) (by rfl)) (fun _ _ => ?_)
   refine JL_nil ?_
   refine JQ_then_n ?_
   refine J_seq ?_
   refine J_seq ?_
   refine J_reg ?_
   refine JP (rp_fieldC (off' := 0) rfl rfl fa_146_0 rfl) ?_
   refine JV (rv_cell rfl rfl ag_144 (by repeat constructor) (by rfl)) ?_
   refine JM rfl rfl rfl rfl rfl ?_
   refine JL_op (wn0 rfl) (ow_callB (ec_valE (args := #[.slice A1 g.length cap1, .pointer (some ⟨t16.2.1, 0, none⟩), .pointer (some ⟨t16.1, 0, none⟩)]) rfl rfl rfl cf_101 rfl) rfl rfl (fun w hw => asked101 (mtA (wonM l) g g.length).1 (mtA (wonM l) g g.length).2 g w t16.1 t16.2.1 t16.2.2.1 A1 cap1 (MtF.of hw (by repeat constructor) (by repeat constructor) (by repeat constructor)) (hg.up EI hw.bel) (List.length_pos_iff.2 hne) (by omega) (fun x hx => by have := hgd x hx; exact ⟨by omega, by omega⟩))) (fun _ _ => ?_)
   refine JL_bool (fun h20 => ?_) (fun h20 => ?_)
   ·refine JP (rp1 rfl (fun ρ hx w => ex_not rfl hx)) ?_
    refine JL_nil ?_
    refine JQ_then_n ?_
    refine J_no rfl rfl ?_
    refine J_skip ?_
    refine JQ_then_n ?_
    refine J_seq ?_
    have h20' : mtAsk l g = true := h20
    refine J_own0 26 1 ?_
    refine J_sls0 1 eI ?_
    refine J_keep (l' := [(0, _), (1, _), (5, _)]) ⟨rfl, rfl, rfl, trivial⟩ ?_
    refine J_reg ?_
    refine JN rfl rfl rfl rfl rfl ?_
    refine JL_nil ?_
    refine JQ_then_n ?_
    refine J_seq ?_
    refine J_seq ?_
    refine J_reg ?_
    refine JM rfl rfl rfl rfl rfl ?_
    refine JP (rp_fieldC (off' := 1) rfl rfl fa_146_1 rfl) ?_
    refine JV (rv_cell rfl rfl ag_136 (by repeat constructor) (by rfl)) ?_
    refine JL_op (wn0 rfl) (ow_callD (ec_fn rfl rfl cf_86) rfl rfl (fun _ => noOB) (fun w hw => (grouped86 103 #[] #[.pointer (some ⟨t16.1, 0, none⟩)] (fun a b => mtW l g b - mtW l g a) (fun a => -(mtW l g a)) (fun x => 0 ≤ x ∧ x < T) g _ w cf_103 (fun a b ha hb xs W e hW => by
      subst e
      exact order103 (mtA (wonM l) g g.length).1 (mtA (wonM l) g g.length).2 a b W t16.1 t16.2.1 t16.2.2.1 ((MtF.of hw (by repeat constructor) (by repeat constructor) (by repeat constructor)).up hW) ⟨by omega, by omega⟩ ⟨by omega, by omega⟩ (fun x => by have := mtA_bd (wonM l) g g.length x (Nat.le_refl _) (by omega); omega)) (fun a b _ _ => by constructor <;> (dsimp only; omega)) hgd hinc (hg.up EI hw.bel) (by omega) hne).mono (fun _ _ h => retD_of h))) (fun t29 ht29 => ?_)
    obtain ⟨A29, c29, D29⟩ := t29
    obtain ⟨hD29, hN29⟩ := ht29
    dsimp only at hD29 hN29 ⊢
    refine JP (rp1 rfl (fun ρ hx w => ex_len (A := _) (c := _) rfl Try.underlying113 hx)) ?_
    refine JM rfl rfl rfl rfl rfl ?_
    refine JL_nil ?_
    refine JQ_then_n ?_
    refine J_block ?_
    refine J_loop (T := Nat × Option Addr × Nat × List (Dv Int)) (fun q => q.1 ≤ D29.length ∧ q.2.2.2.map Dv.l = ((grps (fun a => -(mtW l g a)) g).take q.1).flatMap (apP l f) ∧ DvNew w (slsB 1 eI [⟨A1, g.length, cap1, g⟩]).foot q.2.2.2) (fun q => [(0, .pointer (some ⟨sb, 0, none⟩)), (6, .slice q.2.1 q.2.2.2.length q.2.2.1), (29, .slice A29 D29.length c29), (30, .int .i64 (D29.length : Nat)), (31, .int .i64 (q.1 : Nat))]) (fun q => [ownB 26 1 q.2.1 q.2.2.2.length q.2.2.1 (q.2.2.2.flatMap eD), slsB 1 eI q.2.2.2, ownB 26 1 A29 D29.length c29 (D29.flatMap eD), slsB 1 eI D29]) (fun q => D29.length - q.1) (0, none, 0, []) ⟨Nat.zero_le _, rfl, DvNew.nil⟩ ⟨rfl, rfl, rfl, rfl, rfl, trivial⟩ (by repeat constructor) ?_
    rintro ⟨k, A6, c6, D6⟩ ⟨hk, hD6, hN6⟩
    dsimp only at hk hD6 hN6 ⊢
    refine J_seq ?_
    refine J_reg ?_
    refine JP (rp2 rfl rfl (fun ρ hx hy w => ex_lssD rfl hx hy)) ?_
    refine JL_dec (fun h32 => ?_) (fun h32 => ?_)
    ·refine JL_nil ?_
     refine JQ_then_n ?_
     refine J_seq ?_
     refine J_yes rfl rfl ?_
     refine J_skip ?_
     refine JQ_then_n ?_
     refine J_seq ?_
     refine J_block ?_
     refine J_seq ?_
     have hlt : k < D29.length := by omega
     refine J_fact (fun hf => ?_)
     obtain ⟨b29, rfl⟩ := own_some (A := A29) hf (by repeat constructor) (by omega)
     obtain ⟨p, hp⟩ : ∃ p, D29[k]'hlt = p := ⟨_, rfl⟩
     have hpm : p ∈ D29 := by rw [← hp]; exact List.getElem_mem _
     obtain ⟨hpn, hpc, -, -⟩ := sls_len (D := D29) (p := p) hf (by repeat constructor) hpm
     have hpl : p.l ∈ grps (fun a => -(mtW l g a)) g := by rw [← hD29]; exact List.mem_map_of_mem hpm
     obtain ⟨hpne, hpinc, hpsub, hplen⟩ := grps_part hinc hpl
     have hDl29 : D29.length ≤ g.length := by
      have := grps_len (key := fun a => -(mtW l g a)) g.length g
      unfold grps at hD29
      rw [← hD29, List.length_map] at this; exact this
     have hkb : k < (grps (fun a => -(mtW l g a)) g).length := by rw [← hD29, List.length_map]; exact hlt
     have hgk : (grps (fun a => -(mtW l g a)) g)[k]'hkb = p.l := by
      have : (D29.map Dv.l)[k]'(by rw [List.length_map]; exact hlt) = p.l := by rw [List.getElem_map, hp]
      simpa only [hD29] using this
     have hsn : ((grps (fun a => -(mtW l g a)) g).take (k + 1)).flatMap (apP l f) = ((grps (fun a => -(mtW l g a)) g).take k).flatMap (apP l f) ++ apP l f p.l := by
      rw [List.take_succ_eq_append_getElem hkb, List.flatMap_append, hgk]; simp
     have hgrp := grps_ok (fun a => -(mtW l g a)) hinc
     have hlenp : p.l.length < g.length := by
      obtain ⟨a, ha, b, hb, hab⟩ := ask_two h20'
      have h1 := flat_part (fun e he => hgrp.ne e he) hpl (hgrp.two ha hb hab)
      rw [hgrp.flat_len hinc] at h1; exact h1
     have hfl := flatTakeP_len l f (grps (fun a => -(mtW l g a)) g) k (fun d hd => ⟨hgrp.ne d hd, hgrp.asc d hd⟩)
     rw [hgrp.flat_len hinc, ← hD6, List.length_map] at hfl
     have hal := apP_len l f p.l hpne hpinc
     have hop : DvNew w (slsB 1 eI [⟨A1, g.length, cap1, g⟩]).foot [p] := fun q hq hn b o e => by
      rw [List.mem_singleton.1 hq] at hn e
      exact (hN29 p hpm hn b o e).imp_right (fun h => h.elim)
     obtain ⟨pA, pn, pc, pl⟩ := p
     dsimp only at hpn hpc hpl hpne hpinc hpsub hplen hgk hsn hlenp hal
     subst hpn
     refine J_reg ?_
     refine JP (rp2 rfl rfl (fun ρ hx hy w => ex_indexE rfl hx hy Try.underlying113 sz_26 (by omega))) ?_
     refine JV (rv_ownE (L := D29) ED rfl rfl ag_26 (by repeat constructor) (by omega) (by omega) (by rw [hp]; rfl)) ?_
     refine JN rfl rfl rfl rfl rfl ?_
     refine JL_nil ?_
     refine JQ_then_n ?_
     refine J_reg ?_
     refine JM rfl rfl rfl rfl rfl ?_
     refine JM rfl rfl rfl rfl rfl ?_
     refine JM rfl rfl rfl rfl rfl ?_
     refine JL_op (wn0 rfl) (ow_callD (ec_fn rfl rfl cf_88) rfl rfl (fun w hw C hC hr b hb => roOB (A := slsB 1 eI D29) (by repeat constructor) rfl hw C hC hr b (by obtain ⟨p, hp, hn, o, ho⟩ := hb; rw [List.mem_singleton.1 hp] at hn ho; exact ⟨_, hpm, hn, o, ho⟩)) (fun w hw => apart88 T l hT hl hv hvb f pl pA pc _ sb rb mb (hst.up hw.bel) (sls_arr (D := D29) hw (by repeat constructor) hpm) (by omega) (by omega) hpne hpinc (fun x hx => hgd x (hpsub x hx)))) (fun t38 ht38 => ?_)
     obtain ⟨A38, c38, D38⟩ := t38
     obtain ⟨hD38, hN38⟩ := ht38
     dsimp only at hD38 hN38 ⊢
     have hl38 : D38.length = (apP l f pl).length := by rw [← hD38, List.length_map]
     have hN38b : DvNew w (slsB 1 eI [⟨A1, g.length, cap1, g⟩]).foot D38 := fun q hq hn b o e => by
      rcases hN38 q hq hn b o e with h | ⟨q', hq', hn', o', e'⟩
      ·exact .inl h
      ·exact hop q' hq' hn' b o' e'
     refine JL_merge (D := D6) (D' := D38) (by repeat (first | exact Rm.here _ | apply Rm.there)) (by repeat (first | exact Rm.here _ | apply Rm.there)) ?_
     refine JL_fact (fun hf => ?_)
     obtain ⟨b38, rfl⟩ := own_some (A := A38) hf (by repeat constructor) (by omega)
     refine JL_opS (wn0 rfl) (ow_app (M := D38) ED (by decide) Try.underlying113 Try.info26 rfl (by decide) rfl rfl rfl rfl rfl rfl (fun w hw => news_own (ty := 26) (k := 1) (m := D38.length) (c := c38) (by repeat constructor) hw) (by omega) (by intro A c; repeat constructor)) (fun A39 c39 => ?_)
     refine JN rfl rfl rfl rfl rfl ?_
     refine JL_nil ?_
     refine JQ_block_n ?_
     refine JQ_then_n ?_
     refine J_keep (l' := [(0, _), (6, _), (29, _), (30, _), (31, _)]) ⟨rfl, rfl, rfl, rfl, rfl, trivial⟩ ?_
     refine J_reg ?_
     refine JP (rp2 rfl rfl (fun ρ hx hy w => ex_add rfl hx hy (by omega))) ?_
     refine JM rfl rfl rfl rfl rfl ?_
     refine JL_nil ?_
     exact JQ_round (k + 1, A39, c39, D6 ++ D38) ⟨by dsimp only; omega, by dsimp only; rw [List.map_append, hD6, hD38, hsn], hN6.app hN38b⟩ (by dsimp only; omega) ⟨rfl, rfl, rfl, rfl, (congrArg some (by go_num)), trivial⟩ (by repeat constructor)
    ·refine JL_nil ?_
     refine JQ_then_n ?_
     refine J_seq ?_
     refine J_no rfl rfl ?_
     refine J_exit ?_
     refine JQ_then_x ?_
     refine JQ_then_x ?_
     refine JQ_block_y rfl ?_
     refine JQ_then_n ?_
     refine J_seq ?_
     refine J_keep (l' := [(6, _)]) ⟨rfl, trivial⟩ ?_
     refine J_reg ?_
     refine JM rfl rfl rfl rfl rfl ?_
     refine JN rfl rfl rfl rfl rfl ?_
     refine JL_nil ?_
     refine JQ_then_n ?_
     refine J_ret ?_
     refine JR_one rfl (rr_tmp rfl) ?_
     intro w' hw
     have ek : k = D29.length := by omega
     subst ek
     have e : apP l (f + 1) g = D6.map Dv.l := by
      unfold apP
      rw [if_neg (by omega), if_pos h20', hD6, List.take_of_length_le (by rw [← hD29, List.length_map]; exact Nat.le_refl _)]
     exact ⟨A6, c6, D6, e.symm, rfl, hw.pick (by repeat constructor), hN6⟩
   ·refine JP (rp1 rfl (fun ρ hx w => ex_not rfl hx)) ?_
    refine JL_nil ?_
    refine JQ_then_n ?_
    refine J_yes rfl rfl ?_
    refine J_seq ?_
    refine J_keep (l' := [(0, _), (1, _)]) ⟨rfl, rfl, trivial⟩ ?_
    refine J_reg ?_
    refine JM rfl rfl rfl rfl rfl ?_
    refine JM rfl rfl rfl rfl rfl ?_
    refine JP (rp_func rfl rfl rfl) ?_
    refine JL_op (wn0 rfl) (ow_callD (ec_fn rfl rfl cf_86) rfl rfl (fun _ => noOB) (fun w hw => (grouped86 97 #[.pointer (some ⟨sb, 0, none⟩)] #[] (msC l) (msK l) (fun x => 0 ≤ x ∧ x < T) g _ w cf_97 (fun a b ha hb xs W e hW => by
      subst e
      obtain ⟨a, rfl⟩ := Int.eq_ofNat_of_zero_le ha.1
      obtain ⟨b, rfl⟩ := Int.eq_ofNat_of_zero_le hb.1
      exact measures97 T l a b W sb rb mb ((hst.up hw.bel).up hW) (by omega) (by omega) hl hv) (ms_cvk l hl hv _) hgd hinc (hg.up EI hw.bel) (by omega) hne).mono (fun _ _ h => retD_of h))) (fun t25 ht25 => ?_)
    obtain ⟨A25, c25, D25⟩ := t25
    obtain ⟨hD25, hN25⟩ := ht25
    dsimp only at hD25 hN25 ⊢
    refine JN rfl rfl rfl rfl rfl ?_
    refine JL_nil ?_
    refine JQ_then_n ?_
    refine J_ret ?_
    refine JQ_then_r ?_
    refine JR_one rfl (rr_tmp rfl) ?_
    intro w' hw
    have e : apP l (f + 1) g = grps (msK l) g := by unfold apP; rw [if_neg (by omega), if_neg (by show ¬ mtAsk l g = true; intro h; rw [show mtAsk l g = false from h20] at h; cases h)]
    rw [e]
    exact ⟨A25, c25, D25, hD25, rfl, hw.pick (by repeat constructor), fun p hp hn b o e => (hN25 p hp hn b o e).imp_right (fun h => h.elim)⟩
end Go.Proofs.Ytlfbbofcnonhdaa

/- Contracts: order. -/
namespace Go.Proofs.Ytlfbbofcnonhdaa
open Go Go.RowKit Go.Proofs

/-- Teams by places: by wins, and further. -/
def wnK (l : List Re) (a : Int) : Int := -((rowN l a).wins)
def ordP (l : List Re) (T : Nat) : List (List Int) := (grps (wnK l) (allT T)).flatMap (apP l T)
theorem allT_inc (T : Nat) : (allT T).Pairwise (· < ·) := by
 unfold allT
 rw [List.pairwise_map]
 exact List.pairwise_lt_range.imp (fun h => by omega)
theorem allT_in {T : Nat} {x : Int} (h : x ∈ allT T) : 0 ≤ x ∧ x < T := by
 unfold allT at h
 obtain ⟨t, ht, rfl⟩ := List.mem_map.1 h
 have := List.mem_range.1 ht
 omega
theorem allT_ne {T : Nat} (h : 2 ≤ T) : allT T ≠ [] := by
 intro e
 have := allT_len T
 rw [e] at this; simp at this; omega

set_option maxRecDepth 100000 in
set_option maxHeartbeats 4000000 in
theorem order64 (T : Nat) (l : List Re) (w : World) (sb rb mb : Nat) (hst : StF T l w sb rb mb) (hT : 2 ≤ T ∧ T ≤ 16) (hl : l.length ≤ 300) (hv : ∀ x ∈ l, ReB x) (hvb : ∀ x ∈ l, vldB T x = true) : Calls Try.prog 64 #[.pointer (some ⟨sb, 0, none⟩)] w (RetD 26 1 eI (fun _ => False) (ordP l T) w) := by
 have s0 := hst.s0
 refine J_enter (fun _ => False) (vs := [.pointer (some ⟨sb, 0, none⟩)]) (k := 35) (l := [(0, .pointer (some ⟨sb, 0, none⟩))]) Try.func64 rfl rfl Try.ntmps64 rfl rfl (Wd.start _) ?_
 refine J_seq ?_
 refine J_reg ?_
 refine JL_op (wn0 rfl) (ow_box (vs := [_]) rfl rfl rfl rfl rfl) (fun b1 hb1 => ?_)
 refine JN rfl rfl rfl rfl rfl ?_
 refine JL_nil ?_
 refine JQ_then_n ?_
 refine J_seq ?_
 refine J_reg ?_
 refine JN rfl rfl rfl rfl rfl ?_
 refine JL_nil ?_
 refine JQ_then_n ?_
 refine J_seq ?_
 refine J_seq ?_
 refine J_own0 3 1 ?_
 refine J_reg ?_
 refine JV (rv_cell rfl rfl ag_111 (by repeat constructor) (by rfl)) ?_
 refine JP (rp_nil rfl rfl) ?_
 refine JP (rp_fieldC (off' := 0) rfl rfl fa_117_0 rfl) ?_
 refine JV (rv_old rfl rfl ag_45 (fun h => h) s0) ?_
 refine JP (rp1 rfl (fun ρ hx w => ex_len (A := _) (c := _) rfl Try.underlying45 hx)) ?_
 refine JM rfl rfl rfl rfl rfl ?_
 refine JL_nil ?_
 refine JQ_then_n ?_
 refine J_block ?_
 refine J_loop (T := Nat × Option Addr × Nat) (fun q => q.1 ≤ T) (fun q => [(1, .pointer (some ⟨b1, 0, none⟩)), (3, .slice q.2.1 (allT q.1).length q.2.2), (12, .int .i64 (T : Nat)), (13, .int .i64 (q.1 : Nat))]) (fun q => [ownB 3 1 q.2.1 (allT q.1).length q.2.2 ((allT q.1).flatMap eI), cellB b1 [.pointer (some ⟨sb, 0, none⟩)] 111]) (fun q => T - q.1) (0, none, 0) (Nat.zero_le _) ⟨rfl, rfl, rfl, rfl, trivial⟩ (by repeat constructor) ?_
 rintro ⟨k, A3, c3⟩ hk
 dsimp only at hk ⊢
 refine J_seq ?_
 refine J_reg ?_
 refine JP (rp2 rfl rfl (fun ρ hx hy w => ex_lssD rfl hx hy)) ?_
 refine JL_dec (fun h14 => ?_) (fun h14 => ?_)
 ·refine JL_nil ?_
  refine JQ_then_n ?_
  refine J_seq ?_
  refine J_yes rfl rfl ?_
  refine J_skip ?_
  refine JQ_then_n ?_
  refine J_seq ?_
  refine J_block ?_
  refine J_seq ?_
  refine J_reg ?_
  refine JM rfl rfl rfl rfl rfl ?_
  refine JN rfl rfl rfl rfl rfl ?_
  refine JL_nil ?_
  refine JQ_then_n ?_
  have hal0 := allT_len k
  refine J_reg ?_
  refine JM rfl rfl rfl rfl rfl ?_
  refine JM rfl rfl rfl rfl rfl ?_
  refine JL_op (wn0 rfl) (ow_sliceC (vs := [_]) (ty := 3) rfl rfl (by rfl) rfl rfl (fun _ => by kernel_rfl)) (fun b18 hb18 => ?_)
  refine JL_opS (wn0 rfl) (ow_app1 EI (by decide) (((k : Nat) : Int)) Try.underlying26 Try.info3 rfl (by decide) rfl rfl rfl rfl rfl (by repeat constructor) (by rfl) (by omega) (by intro A c; repeat constructor)) (fun A19 c19 => ?_)
  refine JN rfl rfl rfl rfl rfl ?_
  refine JL_nil ?_
  refine JQ_block_n ?_
  refine JQ_then_n ?_
  refine J_keep (l' := [(1, _), (3, _), (12, _), (13, _)]) ⟨rfl, rfl, rfl, rfl, trivial⟩ ?_
  refine J_reg ?_
  refine JP (rp2 rfl rfl (fun ρ hx hy w => ex_add rfl hx hy (by omega))) ?_
  refine JM rfl rfl rfl rfl rfl ?_
  refine JL_nil ?_
  exact JQ_round (k + 1, A19, c19) (by dsimp only; omega) (by dsimp only; omega) ⟨rfl, (by rw [allT_succ]; rfl), rfl, (congrArg some (by go_num)), trivial⟩ (by (try dsimp only); rw [allT_succ]; repeat (first | exact Pk.nil _ | (refine Pk.pick (by repeat (first | exact Rm.here _ | apply Rm.there)) ?_)))
 ·refine JL_nil ?_
  refine JQ_then_n ?_
  refine J_seq ?_
  refine J_no rfl rfl ?_
  refine J_exit ?_
  refine JQ_then_x ?_
  refine JQ_then_x ?_
  refine JQ_block_y rfl ?_
  refine JQ_then_n ?_
  refine J_seq ?_
  have ek : T = k := by omega
  subst ek
  have hal0 := allT_len T
  refine J_freeze EI (A := A3) (by repeat constructor) (by omega) ?_
  refine J_reg ?_
  refine JN rfl rfl rfl rfl rfl ?_
  refine JL_nil ?_
  refine JQ_then_n ?_
  refine J_seq ?_
  refine J_seq ?_
  refine J_own0 26 1 ?_
  refine J_sls0 1 eI ?_
  refine J_reg ?_
  refine JM rfl rfl rfl rfl rfl ?_
  refine JP (rp_func rfl rfl rfl) ?_
  refine JL_op (wn0 rfl) (ow_callD (ec_fn rfl rfl cf_86) rfl rfl (fun _ => noOB) (fun w hw => (grouped86 87 #[] #[.pointer (some ⟨b1, 0, none⟩)] (fun a b => (rowN l b).wins - (rowN l a).wins) (wnK l) (fun x => 0 ≤ x ∧ x < T) (allT T) _ w cf_87 (fun a b ha hb xs W e hW => by
    subst e
    obtain ⟨a, rfl⟩ := Int.eq_ofNat_of_zero_le ha.1
    obtain ⟨b, rfl⟩ := Int.eq_ofNat_of_zero_le hb.1
    exact order87 T l a b W b1 sb rb mb (upc (cellB_get (hw.ok _ (by repeat constructor)).1 rfl) hW) ((hst.up hw.bel).up hW) (by omega) (by omega) hl hv) (fun a b _ _ => by unfold wnK; constructor <;> (dsimp only; omega)) (fun x hx => allT_in hx) (allT_inc T) (sls_arr (D := [⟨A3, (allT T).length, c3, allT T⟩]) (p := ⟨A3, (allT T).length, c3, allT T⟩) hw (by repeat constructor) (by simp)) (by omega) (allT_ne hT.1)).mono (fun _ _ h => retD_of h))) (fun t23 ht23 => ?_)
  obtain ⟨A23, c23, D23⟩ := t23
  obtain ⟨hD23, hN23⟩ := ht23
  dsimp only at hD23 hN23 ⊢
  refine JP (rp1 rfl (fun ρ hx w => ex_len (A := _) (c := _) rfl Try.underlying113 hx)) ?_
  refine JM rfl rfl rfl rfl rfl ?_
  refine JL_nil ?_
  refine JQ_then_n ?_
  refine J_block ?_
  refine J_loop (T := Nat × Option Addr × Nat × List (Dv Int)) (fun q => q.1 ≤ D23.length ∧ q.2.2.2.map Dv.l = ((grps (wnK l) (allT T)).take q.1).flatMap (apP l T) ∧ DvNew w (fun _ => False) q.2.2.2) (fun q => [(1, .pointer (some ⟨b1, 0, none⟩)), (5, .slice q.2.1 q.2.2.2.length q.2.2.1), (23, .slice A23 D23.length c23), (24, .int .i64 (D23.length : Nat)), (25, .int .i64 (q.1 : Nat))]) (fun q => [ownB 26 1 q.2.1 q.2.2.2.length q.2.2.1 (q.2.2.2.flatMap eD), slsB 1 eI q.2.2.2, ownB 26 1 A23 D23.length c23 (D23.flatMap eD), slsB 1 eI D23, cellB b1 [.pointer (some ⟨sb, 0, none⟩)] 111]) (fun q => D23.length - q.1) (0, none, 0, []) ⟨Nat.zero_le _, rfl, DvNew.nil⟩ ⟨rfl, rfl, rfl, rfl, rfl, trivial⟩ (by repeat constructor) ?_
  rintro ⟨k, A5, c5, D5⟩ ⟨hk, hD5, hN5⟩
  dsimp only at hk hD5 hN5 ⊢
  refine J_seq ?_
  refine J_reg ?_
  refine JP (rp2 rfl rfl (fun ρ hx hy w => ex_lssD rfl hx hy)) ?_
  refine JL_dec (fun h26 => ?_) (fun h26 => ?_)
  ·refine JL_nil ?_
   refine JQ_then_n ?_
   refine J_seq ?_
   refine J_yes rfl rfl ?_
   refine J_skip ?_
   refine JQ_then_n ?_
   refine J_seq ?_
   refine J_block ?_
   refine J_seq ?_
   have hlt : k < D23.length := by omega
   refine J_fact (fun hf => ?_)
   obtain ⟨b23, rfl⟩ := own_some (A := A23) hf (by repeat constructor) (by omega)
   obtain ⟨p, hp⟩ : ∃ p, D23[k]'hlt = p := ⟨_, rfl⟩
   have hpm : p ∈ D23 := by rw [← hp]; exact List.getElem_mem _
   obtain ⟨hpn, hpc, -, -⟩ := sls_len (D := D23) (p := p) hf (by repeat constructor) hpm
   have hpl : p.l ∈ grps (wnK l) (allT T) := by rw [← hD23]; exact List.mem_map_of_mem hpm
   obtain ⟨hpne, hpinc, hpsub, hple⟩ := grps_part (allT_inc T) hpl
   rw [allT_len] at hple
   have hgrp := grps_ok (wnK l) (allT_inc T)
   have hDl : D23.length ≤ T := by
    have := grps_len (key := wnK l) (allT T).length (allT T)
    unfold grps at hD23
    rw [← hD23, List.length_map, allT_len] at this; exact this
   have hkb : k < (grps (wnK l) (allT T)).length := by rw [← hD23, List.length_map]; exact hlt
   have hgk : (grps (wnK l) (allT T))[k]'hkb = p.l := by
    have : (D23.map Dv.l)[k]'(by rw [List.length_map]; exact hlt) = p.l := by rw [List.getElem_map, hp]
    simpa only [hD23] using this
   have hsn : ((grps (wnK l) (allT T)).take (k + 1)).flatMap (apP l T) = ((grps (wnK l) (allT T)).take k).flatMap (apP l T) ++ apP l T p.l := by
    rw [List.take_succ_eq_append_getElem hkb, List.flatMap_append, hgk]; simp
   have hfl := flatTakeP_len l T (grps (wnK l) (allT T)) k (fun d hd => ⟨hgrp.ne d hd, hgrp.asc d hd⟩)
   rw [hgrp.flat_len (allT_inc T), allT_len, ← hD5, List.length_map] at hfl
   have hal := apP_len l T p.l hpne hpinc
   have hop : ∀ q ∈ [p], q.l ≠ [] → ∀ b o, q.A = some ⟨b, o, none⟩ → w.heap.size ≤ b := fun q hq hn b o e => by
    rw [List.mem_singleton.1 hq] at hn e
    exact (hN23 p hpm hn b o e).elim (fun h => h) (fun h => h.elim)
   obtain ⟨pA, pn, pc, pl⟩ := p
   dsimp only at hpn hpc hpl hpne hpinc hpsub hple hgk hsn hal
   subst hpn
   refine J_reg ?_
   refine JP (rp2 rfl rfl (fun ρ hx hy w => ex_indexE rfl hx hy Try.underlying113 sz_26 (by omega))) ?_
   refine JV (rv_ownE (L := D23) ED rfl rfl ag_26 (by repeat constructor) (by omega) (by omega) (by rw [hp]; rfl)) ?_
   refine JN rfl rfl rfl rfl rfl ?_
   refine JL_nil ?_
   refine JQ_then_n ?_
   refine J_reg ?_
   refine JM rfl rfl rfl rfl rfl ?_
   refine JV (rv_cell rfl rfl ag_111 (by repeat constructor) (by rfl)) ?_
   refine JM rfl rfl rfl rfl rfl ?_
   refine JL_op (wn0 rfl) (ow_callD (ec_fn rfl rfl cf_88) rfl rfl (fun w hw C hC hr b hb => roOB (A := slsB 1 eI D23) (by repeat constructor) rfl hw C hC hr b (by obtain ⟨p, hp, hn, o, ho⟩ := hb; rw [List.mem_singleton.1 hp] at hn ho; exact ⟨_, hpm, hn, o, ho⟩)) (fun w hw => apart88 T l hT.2 hl hv hvb T pl pA pc _ sb rb mb (hst.up hw.bel) (sls_arr (D := D23) hw (by repeat constructor) hpm) (by omega) (by omega) hpne hpinc (fun x hx => allT_in (hpsub x hx)))) (fun t32 ht32 => ?_)
   obtain ⟨A32, c32, D32⟩ := t32
   obtain ⟨hD32, hN32⟩ := ht32
   dsimp only at hD32 hN32 ⊢
   have hl32 : D32.length = (apP l T pl).length := by rw [← hD32, List.length_map]
   have hN32b : DvNew w (fun _ => False) D32 := fun q hq hn b o e => by
    rcases hN32 q hq hn b o e with h | ⟨q', hq', hn', o', e'⟩
    ·exact .inl h
    ·exact .inl (hop q' hq' hn' b o' e')
   refine JL_merge (D := D5) (D' := D32) (by repeat (first | exact Rm.here _ | apply Rm.there)) (by repeat (first | exact Rm.here _ | apply Rm.there)) ?_
   refine JL_fact (fun hf => ?_)
   obtain ⟨b32, rfl⟩ := own_some (A := A32) hf (by repeat constructor) (by omega)
   refine JL_opS (wn0 rfl) (ow_app (M := D32) ED (by decide) Try.underlying113 Try.info26 rfl (by decide) rfl rfl rfl rfl rfl rfl (fun w hw => news_own (ty := 26) (k := 1) (m := D32.length) (c := c32) (by repeat constructor) hw) (by omega) (by intro A c; repeat constructor)) (fun A33 c33 => ?_)
   refine JN rfl rfl rfl rfl rfl ?_
   refine JL_nil ?_
   refine JQ_block_n ?_
   refine JQ_then_n ?_
   refine J_keep (l' := [(1, _), (5, _), (23, _), (24, _), (25, _)]) ⟨rfl, rfl, rfl, rfl, rfl, trivial⟩ ?_
   refine J_reg ?_
   refine JP (rp2 rfl rfl (fun ρ hx hy w => ex_add rfl hx hy (by omega))) ?_
   refine JM rfl rfl rfl rfl rfl ?_
   refine JL_nil ?_
   exact JQ_round (k + 1, A33, c33, D5 ++ D32) ⟨by dsimp only; omega, by dsimp only; rw [List.map_append, hD5, hD32, hsn], hN5.app hN32b⟩ (by dsimp only; omega) ⟨rfl, rfl, rfl, rfl, (congrArg some (by go_num)), trivial⟩ (by repeat constructor)
  ·refine JL_nil ?_
   refine JQ_then_n ?_
   refine J_seq ?_
   refine J_no rfl rfl ?_
   refine J_exit ?_
   refine JQ_then_x ?_
   refine JQ_then_x ?_
   refine JQ_block_y rfl ?_
   refine JQ_then_n ?_
   refine J_seq ?_
   refine J_keep (l' := [(5, _)]) ⟨rfl, trivial⟩ ?_
   refine J_reg ?_
   refine JM rfl rfl rfl rfl rfl ?_
   refine JN rfl rfl rfl rfl rfl ?_
   refine JL_nil ?_
   refine JQ_then_n ?_
   refine J_ret ?_
   refine JR_one rfl (rr_tmp rfl) ?_
   intro w' hw
   have ek : k = D23.length := by omega
   subst ek
   have e : ordP l T = D5.map Dv.l := by
    unfold ordP
    rw [hD5, List.take_of_length_le (by rw [← hD23, List.length_map]; exact Nat.le_refl _)]
   exact ⟨A5, c5, D5, e.symm, rfl, hw.pick (by repeat constructor), hN5⟩
end Go.Proofs.Ytlfbbofcnonhdaa
