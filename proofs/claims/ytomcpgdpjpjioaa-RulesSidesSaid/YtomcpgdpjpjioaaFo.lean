/- Contract of the document's CheckThrow. -/
import Derived.Test.YtomcpgdpjpjioaaFm
import Derived.Test.YtomcpgdpjpjioaaDf
namespace Go.Proofs.Ytomcpgdpjpjioaa
open Go.RowKit Go.Proofs Go.Shelf
attribute [local go_sem] Oper.semAt_some

theorem eql53 (a b : St) (w : World) : (binOp .eql 53 (Stv a) (Stv b)).run Try.prog w = .ok (.bool (eqS a b)) w := by
  have h := ein53 9997 a b w
  unfold Stv at h ⊢
  rw [run_eql_struct, h]
  rfl
/-- As far as they were looked at, the stones are where they were. -/
def sameB (l m : List St) (k : Nat) : Bool := (l.length == m.length) && (m.take k).all (fun s => (l.find? (isB s.t s.n)).any (fun s' => eqS s' s))
theorem sameB_step (l m : List St) {k : Nat} (h : k < m.length) : sameB l m (k + 1) = (sameB l m k && (l.find? (isB (m[k]'h).t (m[k]'h).n)).any (fun s' => eqS s' (m[k]'h))) := by
  unfold sameB; rw [List.take_succ_eq_append_getElem h, List.all_append]; simp [Bool.and_assoc]
theorem strict_len : ∀ (b a : List St), a.Pairwise (fun a b => kyS a < kyS b) → b.Pairwise (fun a b => kyS a < kyS b) → (∀ x ∈ a, x ∈ b) → a.length ≤ b.length
  | [], [], _, _, _ => Nat.le_refl _
  | [], x :: a, _, _, h => absurd (h x (List.mem_cons_self ..)) (List.not_mem_nil)
  | y :: b, [], _, _, _ => Nat.zero_le _
  | y :: b, x :: a, ha, hb, h => by
    have ha' := List.pairwise_cons.1 ha
    have hb' := List.pairwise_cons.1 hb
    by_cases e : x = y
    · subst e
      have := strict_len b a ha'.2 hb'.2 (fun z hz => by
        rcases List.mem_cons.1 (h z (List.mem_cons_of_mem _ hz)) with h1 | h1
        · have := ha'.1 z hz; rw [h1] at this; omega
        · exact h1)
      simp only [List.length_cons]; omega
    · have hx : x ∈ b := by
        rcases List.mem_cons.1 (h x (List.mem_cons_self ..)) with h1 | h1
        · exact absurd h1 e
        · exact h1
      have hk := hb'.1 x hx
      have := strict_len b (x :: a) ha hb'.2 (fun z hz => by
        rcases List.mem_cons.1 (h z hz) with h1 | h1
        · subst h1
          rcases List.mem_cons.1 hz with h2 | h2
          · exact absurd h2.symm e
          · have := ha'.1 z h2; omega
        · exact h1)
      simp only [List.length_cons] at this ⊢; omega
theorem strict_eq : ∀ (b a : List St), a.Pairwise (fun a b => kyS a < kyS b) → b.Pairwise (fun a b => kyS a < kyS b) → (∀ x ∈ a, x ∈ b) → a.length = b.length → a = b
  | [], a, _, _, _, hl => List.length_eq_zero_iff.1 hl
  | y :: b, [], _, _, _, hl => by simp at hl
  | y :: b, x :: a, ha, hb, h, hl => by
    have ha' := List.pairwise_cons.1 ha
    have hb' := List.pairwise_cons.1 hb
    simp only [List.length_cons] at hl
    by_cases e : x = y
    · subst e
      rw [strict_eq b a ha'.2 hb'.2 (fun z hz => by
        rcases List.mem_cons.1 (h z (List.mem_cons_of_mem _ hz)) with h1 | h1
        · have := ha'.1 z hz; rw [h1] at this; omega
        · exact h1) (by omega)]
    · exfalso
      have hx : x ∈ b := by
        rcases List.mem_cons.1 (h x (List.mem_cons_self ..)) with h1 | h1
        · exact absurd h1 e
        · exact h1
      have hk := hb'.1 x hx
      have := strict_len b (x :: a) ha hb'.2 (fun z hz => by
        rcases List.mem_cons.1 (h z hz) with h1 | h1
        · subst h1
          rcases List.mem_cons.1 hz with h2 | h2
          · exact absurd h2.symm e
          · have := ha'.1 z h2; omega
        · exact h1)
      simp only [List.length_cons] at this; omega
theorem sameB_srt {l m : List St} (hl : chkB l = true) (hm : chkB m = true) : sameB l m m.length = eqL (srt l) (srt m) := by
  have sl := srt_strict (chk_bnd hl) (chk_pw hl)
  have sm := srt_strict (chk_bnd hm) (chk_pw hm)
  rw [Bool.eq_iff_iff, eqL_iff]
  unfold sameB
  rw [List.take_length, Bool.and_eq_true, List.all_eq_true, beq_iff_eq]
  constructor
  · rintro ⟨hlen, h⟩
    refine (strict_eq (srt l) (srt m) sm sl (fun x hx => ?_) (by rw [srt_len, srt_len, hlen])).symm
    have hx' := (srt_perm m).mem_iff.1 hx
    have h1 := h x hx'
    cases hf : l.find? (isB x.t x.n) with
    | none => rw [hf] at h1; cases h1
    | some s' =>
      rw [hf] at h1
      have e : s' = x := (eqS_iff _ _).1 (by simpa using h1)
      subst e
      exact (srt_perm l).mem_iff.2 (List.mem_of_find?_eq_some hf)
  · intro h
    refine ⟨by rw [← srt_len l, ← srt_len m, h], fun x hx => ?_⟩
    have hx' : x ∈ l := (srt_perm l).mem_iff.1 (by rw [h]; exact (srt_perm m).mem_iff.2 hx)
    cases hf : l.find? (isB x.t x.n) with
    | none =>
      rw [List.find?_eq_none] at hf
      exact absurd ((isB_iff _ _ _).2 ⟨rfl, rfl⟩) (hf x hx')
    | some s' =>
      have h3 := (isB_iff _ _ _).1 (List.find?_some hf)
      have e := chk_dis hl s' (List.mem_of_find?_eq_some hf) x hx' h3.1 h3.2
      subst e
      simp [(eqS_iff s' s').2 rfl]
theorem look_ge (l : List St) (t n : Int) : (lookT l t n).isSome = decide (0 ≤ fidx (isB t n) l) := by
  rw [lookT_some, fidx_any]; rfl

set_option maxRecDepth 100000 in
set_option maxHeartbeats 16000000 in
theorem refThrow (l m : List St) (x : Th) (v u : Value) (w : World) (hv : RowS w v l) (hu : RowS w u m) : Calls Try.prog 20 #[v, Thv x u] w (Back (.bool (thrB l m x)) w) := by
  have H22 : Hid (∀ W, Below w.heap.size w W → Calls Try.prog 22 #[v] W (Back (.bool (chkB l)) W)) := fun W h => refCheck l v W (hv.up h)
  have G22 : Hid (∀ W, Below w.heap.size w W → Calls Try.prog 22 #[u] W (Back (.bool (chkB m)) W)) := fun W h => refCheck m u W (hu.up h)
  have H49 : Hid (∀ W t q, Below w.heap.size w W → Calls Try.prog 49 #[v, .int .i64 t, .int .i64 q] W (Back (.int .i64 (fidx (isB t q) l)) W)) := fun W t q h => find49 t q l v W (hv.up h)
  have I1 : Hid (∀ w, Calls Try.prog 37 #[.int .i64 x.team, .int .i64 0, .int .i64 1] w fun e w' => e = .returned (.bool (decide (0 ≤ x.team ∧ x.team ≤ 1))) ∧ w = w') := fun w => rin _ _ _ w
  have I2 : Hid (∀ w, Calls Try.prog 37 #[.int .i64 x.n, .int .i64 0, .int .i64 7] w fun e w' => e = .returned (.bool (decide (0 ≤ x.n ∧ x.n ≤ 7))) ∧ w = w') := fun w => rin _ _ _ w
  have I3 : Hid (∀ w, Calls Try.prog 37 #[.int .i64 x.how, .int .i64 0, .int .i64 4] w fun e w' => e = .returned (.bool (decide (0 ≤ x.how ∧ x.how ≤ 4))) ∧ w = w') := fun w => rin _ _ _ w
  obtain ⟨k0, hk0⟩ : ∃ k, chkB l = k := ⟨_, rfl⟩
  obtain ⟨k1, hk1⟩ : ∃ k, decide (0 ≤ x.team ∧ x.team ≤ 1) = k := ⟨_, rfl⟩
  obtain ⟨k2, hk2⟩ : ∃ k, decide (0 ≤ x.n ∧ x.n ≤ 7) = k := ⟨_, rfl⟩
  obtain ⟨k3, hk3⟩ : ∃ k, decide (0 ≤ x.how ∧ x.how ≤ 4) = k := ⟨_, rfl⟩
  obtain ⟨F, hF⟩ : ∃ F, fidx (isB x.team x.n) l = F := ⟨_, rfl⟩
  obtain ⟨k4, hk4⟩ : ∃ k, decide (0 ≤ F) = k := ⟨_, rfl⟩
  obtain ⟨k5, hk5⟩ : ∃ k, chkB m = k := ⟨_, rfl⟩
  have HT : Hid (thrB l m x = (k0 && k1 && k2 && k3 && !k4 && k5 && (m.all (fun s => (lookT l s.t s.n).isSome || eqK s.t s.n x.team x.n) && (!x.short || eqL (srt l) (srt m))))) := by
    show _ = _
    unfold thrB thrA
    rw [look_ge, hF, hk0, hk1, hk2, hk3, hk4, hk5]
    cases k0 <;> cases k1 <;> cases k2 <;> cases k3 <;> cases k4 <;> cases k5 <;> rfl
  have SB : Hid (k0 = true → k5 = true → sameB l m m.length = eqL (srt l) (srt m)) := fun h1 h2 => sameB_srt (hk0.trans h1) (hk5.trans h2)
  have DL : Hid (k0 = true → dis l) := fun h1 => chk_dis (hk0.trans h1)
  have F49 := Lib.hid (fun W h => H49.out W x.team x.n h)
  rw [hF] at F49
  rw [hk0] at H22
  rw [hk5] at G22
  rw [hk1] at I1
  rw [hk2] at I2
  rw [hk3] at I3
  obtain ⟨A, cap, rfl, hlc, ⟨hcap, hcmx⟩, hcells⟩ := hv
  obtain ⟨A2, cap2, rfl, hlc2, ⟨hcap2, hcmx2⟩, hcells2⟩ := hu
  have HR := Lib.hid hcells
  have HM := Lib.hid hcells2
  have HF4 := hk4
  have HBX : Hid (Below w.heap.size w (w.alloc (Tho x (.slice A2 m.length cap2)))) := (Below.refl _ _).alloc (Nat.le_refl _) _
  have T6 := Lib.hid (Th6.new w x (.slice A2 m.length cap2))
  clear hcells hcells2 hcmx hcmx2 hk0 hk1 hk2 hk3 hk4 hk5 hF
  obtain ⟨x1, x2, x3, x4, x5⟩ := x
  have F49 : Hid (∀ W, Below w.heap.size w W → Calls Try.prog 49 #[.slice A l.length cap, .int .i64 x1, .int .i64 x2] W (Back (.int .i64 F) W)) := F49.out
  cases k0
  case false =>
    go_enter Try.func20, Try.ntmps20
    go_upto_region 1 with fail
    generalize hwx : World.alloc w _ = wx
    have HB : Hid (Below w.heap.size w wx) := by rw [← hwx]; exact HBX.out
    replace T6 : Hid (Th6 wx w.heap.size ⟨x1, x2, x3, x4, x5⟩ (.slice A2 m.length cap2)) := by show Th6 _ _ _ _; rw [← hwx]; exact T6.out
    clear hwx HBX
    obtain ⟨t0, t1, t2, t3, t4, t5⟩ := T6.out
    simp only at t0 t1 t2 t3 t4 t5
    go_wp2_with (first
      | (go_at_call 22; (with_reducible refine (H22.out _ HB.out).mono ?_); rintro e1 w1 ⟨rfl, hb1⟩; replace HB := Lib.hid (HB.out.trans (hb1.mono HB.out.size)); replace T6 := Lib.hid (T6.out.up hb1); clear hb1 t0 t1 t2 t3 t4 t5; obtain ⟨t0, t1, t2, t3, t4, t5⟩ := T6.out; simp only at t0 t1 t2 t3 t4 t5)
      | (go_at_call 22; (with_reducible refine (G22.out _ HB.out).mono ?_); rintro e1 w1 ⟨rfl, hb1⟩; replace HB := Lib.hid (HB.out.trans (hb1.mono HB.out.size)); replace T6 := Lib.hid (T6.out.up hb1); clear hb1 t0 t1 t2 t3 t4 t5; obtain ⟨t0, t1, t2, t3, t4, t5⟩ := T6.out; simp only at t0 t1 t2 t3 t4 t5)
      | (go_at_call 49; (with_reducible refine (F49.out _ HB.out).mono ?_); rintro e1 w1 ⟨rfl, hb1⟩; replace HB := Lib.hid (HB.out.trans (hb1.mono HB.out.size)); replace T6 := Lib.hid (T6.out.up hb1); clear hb1 t0 t1 t2 t3 t4 t5; obtain ⟨t0, t1, t2, t3, t4, t5⟩ := T6.out; simp only at t0 t1 t2 t3 t4 t5)
      | (go_at_call 37; (with_reducible refine (I1.out _).mono ?_); rintro e1 w1 ⟨rfl, rfl⟩)
      | (go_at_call 37; (with_reducible refine (I2.out _).mono ?_); rintro e1 w1 ⟨rfl, rfl⟩)
      | (go_at_call 37; (with_reducible refine (I3.out _).mono ?_); rintro e1 w1 ⟨rfl, rfl⟩))
    go_ret
    exact ⟨by rw [HT.out]; simp, HB.out⟩
  case true =>
    cases k1
    case false =>
      go_enter Try.func20, Try.ntmps20
      go_upto_region 1 with fail
      generalize hwx : World.alloc w _ = wx
      have HB : Hid (Below w.heap.size w wx) := by rw [← hwx]; exact HBX.out
      replace T6 : Hid (Th6 wx w.heap.size ⟨x1, x2, x3, x4, x5⟩ (.slice A2 m.length cap2)) := by show Th6 _ _ _ _; rw [← hwx]; exact T6.out
      clear hwx HBX
      obtain ⟨t0, t1, t2, t3, t4, t5⟩ := T6.out
      simp only at t0 t1 t2 t3 t4 t5
      go_wp2_with (first
        | (go_at_call 22; (with_reducible refine (H22.out _ HB.out).mono ?_); rintro e1 w1 ⟨rfl, hb1⟩; replace HB := Lib.hid (HB.out.trans (hb1.mono HB.out.size)); replace T6 := Lib.hid (T6.out.up hb1); clear hb1 t0 t1 t2 t3 t4 t5; obtain ⟨t0, t1, t2, t3, t4, t5⟩ := T6.out; simp only at t0 t1 t2 t3 t4 t5)
        | (go_at_call 22; (with_reducible refine (G22.out _ HB.out).mono ?_); rintro e1 w1 ⟨rfl, hb1⟩; replace HB := Lib.hid (HB.out.trans (hb1.mono HB.out.size)); replace T6 := Lib.hid (T6.out.up hb1); clear hb1 t0 t1 t2 t3 t4 t5; obtain ⟨t0, t1, t2, t3, t4, t5⟩ := T6.out; simp only at t0 t1 t2 t3 t4 t5)
        | (go_at_call 49; (with_reducible refine (F49.out _ HB.out).mono ?_); rintro e1 w1 ⟨rfl, hb1⟩; replace HB := Lib.hid (HB.out.trans (hb1.mono HB.out.size)); replace T6 := Lib.hid (T6.out.up hb1); clear hb1 t0 t1 t2 t3 t4 t5; obtain ⟨t0, t1, t2, t3, t4, t5⟩ := T6.out; simp only at t0 t1 t2 t3 t4 t5)
        | (go_at_call 37; (with_reducible refine (I1.out _).mono ?_); rintro e1 w1 ⟨rfl, rfl⟩)
        | (go_at_call 37; (with_reducible refine (I2.out _).mono ?_); rintro e1 w1 ⟨rfl, rfl⟩)
        | (go_at_call 37; (with_reducible refine (I3.out _).mono ?_); rintro e1 w1 ⟨rfl, rfl⟩))
      go_ret
      exact ⟨by rw [HT.out]; simp, HB.out⟩
    case true =>
      cases k2
      case false =>
        go_enter Try.func20, Try.ntmps20
        go_upto_region 1 with fail
        generalize hwx : World.alloc w _ = wx
        have HB : Hid (Below w.heap.size w wx) := by rw [← hwx]; exact HBX.out
        replace T6 : Hid (Th6 wx w.heap.size ⟨x1, x2, x3, x4, x5⟩ (.slice A2 m.length cap2)) := by show Th6 _ _ _ _; rw [← hwx]; exact T6.out
        clear hwx HBX
        obtain ⟨t0, t1, t2, t3, t4, t5⟩ := T6.out
        simp only at t0 t1 t2 t3 t4 t5
        go_wp2_with (first
          | (go_at_call 22; (with_reducible refine (H22.out _ HB.out).mono ?_); rintro e1 w1 ⟨rfl, hb1⟩; replace HB := Lib.hid (HB.out.trans (hb1.mono HB.out.size)); replace T6 := Lib.hid (T6.out.up hb1); clear hb1 t0 t1 t2 t3 t4 t5; obtain ⟨t0, t1, t2, t3, t4, t5⟩ := T6.out; simp only at t0 t1 t2 t3 t4 t5)
          | (go_at_call 22; (with_reducible refine (G22.out _ HB.out).mono ?_); rintro e1 w1 ⟨rfl, hb1⟩; replace HB := Lib.hid (HB.out.trans (hb1.mono HB.out.size)); replace T6 := Lib.hid (T6.out.up hb1); clear hb1 t0 t1 t2 t3 t4 t5; obtain ⟨t0, t1, t2, t3, t4, t5⟩ := T6.out; simp only at t0 t1 t2 t3 t4 t5)
          | (go_at_call 49; (with_reducible refine (F49.out _ HB.out).mono ?_); rintro e1 w1 ⟨rfl, hb1⟩; replace HB := Lib.hid (HB.out.trans (hb1.mono HB.out.size)); replace T6 := Lib.hid (T6.out.up hb1); clear hb1 t0 t1 t2 t3 t4 t5; obtain ⟨t0, t1, t2, t3, t4, t5⟩ := T6.out; simp only at t0 t1 t2 t3 t4 t5)
          | (go_at_call 37; (with_reducible refine (I1.out _).mono ?_); rintro e1 w1 ⟨rfl, rfl⟩)
          | (go_at_call 37; (with_reducible refine (I2.out _).mono ?_); rintro e1 w1 ⟨rfl, rfl⟩)
          | (go_at_call 37; (with_reducible refine (I3.out _).mono ?_); rintro e1 w1 ⟨rfl, rfl⟩))
        go_ret
        exact ⟨by rw [HT.out]; simp, HB.out⟩
      case true =>
        cases k3
        case false =>
          go_enter Try.func20, Try.ntmps20
          go_upto_region 1 with fail
          generalize hwx : World.alloc w _ = wx
          have HB : Hid (Below w.heap.size w wx) := by rw [← hwx]; exact HBX.out
          replace T6 : Hid (Th6 wx w.heap.size ⟨x1, x2, x3, x4, x5⟩ (.slice A2 m.length cap2)) := by show Th6 _ _ _ _; rw [← hwx]; exact T6.out
          clear hwx HBX
          obtain ⟨t0, t1, t2, t3, t4, t5⟩ := T6.out
          simp only at t0 t1 t2 t3 t4 t5
          go_wp2_with (first
            | (go_at_call 22; (with_reducible refine (H22.out _ HB.out).mono ?_); rintro e1 w1 ⟨rfl, hb1⟩; replace HB := Lib.hid (HB.out.trans (hb1.mono HB.out.size)); replace T6 := Lib.hid (T6.out.up hb1); clear hb1 t0 t1 t2 t3 t4 t5; obtain ⟨t0, t1, t2, t3, t4, t5⟩ := T6.out; simp only at t0 t1 t2 t3 t4 t5)
            | (go_at_call 22; (with_reducible refine (G22.out _ HB.out).mono ?_); rintro e1 w1 ⟨rfl, hb1⟩; replace HB := Lib.hid (HB.out.trans (hb1.mono HB.out.size)); replace T6 := Lib.hid (T6.out.up hb1); clear hb1 t0 t1 t2 t3 t4 t5; obtain ⟨t0, t1, t2, t3, t4, t5⟩ := T6.out; simp only at t0 t1 t2 t3 t4 t5)
            | (go_at_call 49; (with_reducible refine (F49.out _ HB.out).mono ?_); rintro e1 w1 ⟨rfl, hb1⟩; replace HB := Lib.hid (HB.out.trans (hb1.mono HB.out.size)); replace T6 := Lib.hid (T6.out.up hb1); clear hb1 t0 t1 t2 t3 t4 t5; obtain ⟨t0, t1, t2, t3, t4, t5⟩ := T6.out; simp only at t0 t1 t2 t3 t4 t5)
            | (go_at_call 37; (with_reducible refine (I1.out _).mono ?_); rintro e1 w1 ⟨rfl, rfl⟩)
            | (go_at_call 37; (with_reducible refine (I2.out _).mono ?_); rintro e1 w1 ⟨rfl, rfl⟩)
            | (go_at_call 37; (with_reducible refine (I3.out _).mono ?_); rintro e1 w1 ⟨rfl, rfl⟩))
          go_ret
          exact ⟨by rw [HT.out]; simp, HB.out⟩
        case true =>
          cases k4
          case true =>
            go_enter Try.func20, Try.ntmps20
            go_upto_region 1 with fail
            generalize hwx : World.alloc w _ = wx
            have HB : Hid (Below w.heap.size w wx) := by rw [← hwx]; exact HBX.out
            replace T6 : Hid (Th6 wx w.heap.size ⟨x1, x2, x3, x4, x5⟩ (.slice A2 m.length cap2)) := by show Th6 _ _ _ _; rw [← hwx]; exact T6.out
            clear hwx HBX
            obtain ⟨t0, t1, t2, t3, t4, t5⟩ := T6.out
            simp only at t0 t1 t2 t3 t4 t5
            go_wp2_with (first
              | (go_at_call 22; (with_reducible refine (H22.out _ HB.out).mono ?_); rintro e1 w1 ⟨rfl, hb1⟩; replace HB := Lib.hid (HB.out.trans (hb1.mono HB.out.size)); replace T6 := Lib.hid (T6.out.up hb1); clear hb1 t0 t1 t2 t3 t4 t5; obtain ⟨t0, t1, t2, t3, t4, t5⟩ := T6.out; simp only at t0 t1 t2 t3 t4 t5)
              | (go_at_call 22; (with_reducible refine (G22.out _ HB.out).mono ?_); rintro e1 w1 ⟨rfl, hb1⟩; replace HB := Lib.hid (HB.out.trans (hb1.mono HB.out.size)); replace T6 := Lib.hid (T6.out.up hb1); clear hb1 t0 t1 t2 t3 t4 t5; obtain ⟨t0, t1, t2, t3, t4, t5⟩ := T6.out; simp only at t0 t1 t2 t3 t4 t5)
              | (go_at_call 49; (with_reducible refine (F49.out _ HB.out).mono ?_); rintro e1 w1 ⟨rfl, hb1⟩; replace HB := Lib.hid (HB.out.trans (hb1.mono HB.out.size)); replace T6 := Lib.hid (T6.out.up hb1); clear hb1 t0 t1 t2 t3 t4 t5; obtain ⟨t0, t1, t2, t3, t4, t5⟩ := T6.out; simp only at t0 t1 t2 t3 t4 t5)
              | (go_at_call 37; (with_reducible refine (I1.out _).mono ?_); rintro e1 w1 ⟨rfl, rfl⟩)
              | (go_at_call 37; (with_reducible refine (I2.out _).mono ?_); rintro e1 w1 ⟨rfl, rfl⟩)
              | (go_at_call 37; (with_reducible refine (I3.out _).mono ?_); rintro e1 w1 ⟨rfl, rfl⟩))
            go_ret
            exact ⟨by rw [HT.out]; simp, HB.out⟩
          case false =>
            cases k5
            case false =>
              go_enter Try.func20, Try.ntmps20
              go_upto_region 1 with fail
              generalize hwx : World.alloc w _ = wx
              have HB : Hid (Below w.heap.size w wx) := by rw [← hwx]; exact HBX.out
              replace T6 : Hid (Th6 wx w.heap.size ⟨x1, x2, x3, x4, x5⟩ (.slice A2 m.length cap2)) := by show Th6 _ _ _ _; rw [← hwx]; exact T6.out
              clear hwx HBX
              obtain ⟨t0, t1, t2, t3, t4, t5⟩ := T6.out
              simp only at t0 t1 t2 t3 t4 t5
              go_wp2_with (first
                | (go_at_call 22; (with_reducible refine (H22.out _ HB.out).mono ?_); rintro e1 w1 ⟨rfl, hb1⟩; replace HB := Lib.hid (HB.out.trans (hb1.mono HB.out.size)); replace T6 := Lib.hid (T6.out.up hb1); clear hb1 t0 t1 t2 t3 t4 t5; obtain ⟨t0, t1, t2, t3, t4, t5⟩ := T6.out; simp only at t0 t1 t2 t3 t4 t5)
                | (go_at_call 22; (with_reducible refine (G22.out _ HB.out).mono ?_); rintro e1 w1 ⟨rfl, hb1⟩; replace HB := Lib.hid (HB.out.trans (hb1.mono HB.out.size)); replace T6 := Lib.hid (T6.out.up hb1); clear hb1 t0 t1 t2 t3 t4 t5; obtain ⟨t0, t1, t2, t3, t4, t5⟩ := T6.out; simp only at t0 t1 t2 t3 t4 t5)
                | (go_at_call 49; (with_reducible refine (F49.out _ HB.out).mono ?_); rintro e1 w1 ⟨rfl, hb1⟩; replace HB := Lib.hid (HB.out.trans (hb1.mono HB.out.size)); replace T6 := Lib.hid (T6.out.up hb1); clear hb1 t0 t1 t2 t3 t4 t5; obtain ⟨t0, t1, t2, t3, t4, t5⟩ := T6.out; simp only at t0 t1 t2 t3 t4 t5)
                | (go_at_call 37; (with_reducible refine (I1.out _).mono ?_); rintro e1 w1 ⟨rfl, rfl⟩)
                | (go_at_call 37; (with_reducible refine (I2.out _).mono ?_); rintro e1 w1 ⟨rfl, rfl⟩)
                | (go_at_call 37; (with_reducible refine (I3.out _).mono ?_); rintro e1 w1 ⟨rfl, rfl⟩))
              go_ret
              exact ⟨by rw [HT.out]; simp, HB.out⟩
            case true =>
              go_enter Try.func20, Try.ntmps20
              go_upto_region 1 with fail
              generalize hwx : World.alloc w _ = wx
              have HB : Hid (Below w.heap.size w wx) := by rw [← hwx]; exact HBX.out
              replace T6 : Hid (Th6 wx w.heap.size ⟨x1, x2, x3, x4, x5⟩ (.slice A2 m.length cap2)) := by show Th6 _ _ _ _; rw [← hwx]; exact T6.out
              clear hwx HBX
              obtain ⟨t0, t1, t2, t3, t4, t5⟩ := T6.out
              simp only at t0 t1 t2 t3 t4 t5
              have SB' := Lib.hid (SB.out rfl rfl)
              have HT' : Hid (thrB l m ⟨x1, x2, x3, x4, x5⟩ = (m.all (fun s => (lookT l s.t s.n).isSome || eqK s.t s.n x1 x2) && (!x4 || eqL (srt l) (srt m)))) := by show _ = _; rw [HT.out]; simp
              have DL' := Lib.hid (DL.out rfl)
              obtain ⟨q0, hq0⟩ : ∃ q, ((l.length : Int) == (m.length : Int)) = q := ⟨_, rfl⟩
              have HQ0 : Hid (sameB l m 0 = q0) := by
                show _ = _
                rw [← hq0]
                unfold sameB
                simp only [List.take_zero, List.all_nil, Bool.and_true]
                rw [Bool.eq_iff_iff]; simp; omega
              clear SB HT DL
              go_upto_region 3 with (first
                | (go_at_call 22; (with_reducible refine (H22.out _ HB.out).mono ?_); rintro e1 w1 ⟨rfl, hb1⟩; replace HB := Lib.hid (HB.out.trans (hb1.mono HB.out.size)); replace T6 := Lib.hid (T6.out.up hb1); clear hb1 t0 t1 t2 t3 t4 t5; obtain ⟨t0, t1, t2, t3, t4, t5⟩ := T6.out; simp only at t0 t1 t2 t3 t4 t5)
                | (go_at_call 22; (with_reducible refine (G22.out _ HB.out).mono ?_); rintro e1 w1 ⟨rfl, hb1⟩; replace HB := Lib.hid (HB.out.trans (hb1.mono HB.out.size)); replace T6 := Lib.hid (T6.out.up hb1); clear hb1 t0 t1 t2 t3 t4 t5; obtain ⟨t0, t1, t2, t3, t4, t5⟩ := T6.out; simp only at t0 t1 t2 t3 t4 t5)
                | (go_at_call 49; (with_reducible refine (F49.out _ HB.out).mono ?_); rintro e1 w1 ⟨rfl, hb1⟩; replace HB := Lib.hid (HB.out.trans (hb1.mono HB.out.size)); replace T6 := Lib.hid (T6.out.up hb1); clear hb1 t0 t1 t2 t3 t4 t5; obtain ⟨t0, t1, t2, t3, t4, t5⟩ := T6.out; simp only at t0 t1 t2 t3 t4 t5)
                | (go_at_call 37; (with_reducible refine (I1.out _).mono ?_); rintro e1 w1 ⟨rfl, rfl⟩)
                | (go_at_call 37; (with_reducible refine (I2.out _).mono ?_); rintro e1 w1 ⟨rfl, rfl⟩)
                | (go_at_call 37; (with_reducible refine (I3.out _).mono ?_); rintro e1 w1 ⟨rfl, rfl⟩))
              clear H22 G22 F49 I1 I2 I3
              go_wp2_with fail
              clear t0 t1 t2 t3 t4 t5 hq0 HF4
              have HB0 := HB
              go_loopw [5, 6] (fun sv iv wr => ∃ k : Nat, k ≤ m.length ∧ Hid (sv = .bool (sameB l m k)) ∧ iv = .int .i64 k ∧ Hid ((m.take k).all (fun s => (lookT l s.t s.n).isSome || eqK s.t s.n x1 x2) = true) ∧ Hid (Th6 wr w.heap.size ⟨x1, x2, x3, x4, x5⟩ (.slice A2 m.length cap2)) ∧ Hid (Below w.heap.size w wr)) (fun _ iv _ => m.length - (intOf iv).toNat)
              case atStart => exact ⟨0, by omega, by show _ = _; rw [HQ0.out], rfl, by show _ = _; simp, T6, HB⟩
              case round =>
                obtain ⟨k, hk, hsv, rfl, hall, hth, hb⟩ := hrel
                have hsv := hsv.out
                have HALL := Lib.hid hall.out
                have T6 : Hid (Th6 wr w.heap.size ⟨x1, x2, x3, x4, x5⟩ (.slice A2 m.length cap2)) := hth
                have HB : Hid (Below w.heap.size w wr) := hb
                obtain ⟨sm, hsm⟩ : ∃ q, sameB l m k = q := ⟨_, rfl⟩
                rw [hsm] at hsv
                subst hsv
                have HSM := Lib.hid hsm
                clear hall hth hb hsm HB0 HQ0
                obtain ⟨t0, t1, t2, t3, t4, t5⟩ := T6.out
                simp only at t0 t1 t2 t3 t4 t5
                by_cases hlt : k < m.length
                · have hlt' : (k : Int) < (m.length : Int) := by omega
                  obtain ⟨b, o, rfl, hc⟩ := HM.out (by intro h; subst h; simp at hlt)
                  have S4 := Lib.hid ((hc k hlt).up HB.out)
                  have hst := sameB_step l m hlt
                  have hal : (m.take (k + 1)).all (fun s => (lookT l s.t s.n).isSome || eqK s.t s.n x1 x2) = ((m.take k).all (fun s => (lookT l s.t s.n).isSome || eqK s.t s.n x1 x2) && ((lookT l (m[k]'hlt).t (m[k]'hlt).n).isSome || eqK (m[k]'hlt).t (m[k]'hlt).n x1 x2)) := by rw [List.take_succ_eq_append_getElem hlt, List.all_append]; simp
                  have hmem := List.getElem_mem hlt
                  obtain ⟨y, hy⟩ : ∃ y, m[k]'hlt = y := ⟨_, rfl⟩
                  rw [hy] at S4 hst hal hmem
                  rw [HSM.out] at hst
                  rw [HALL.out, Bool.true_and, look_find DL'.out] at hal
                  have K49 : Hid (∀ W, Below w.heap.size w W → Calls Try.prog 49 #[.slice A l.length cap, .int .i64 y.t, .int .i64 y.n] W (Back (.int .i64 (fidx (isB y.t y.n) l)) W)) := fun W h => H49.out _ _ _ h
                  obtain ⟨o1, ho1⟩ : ∃ q, (y.t == x1) = q := ⟨_, rfl⟩
                  obtain ⟨o2, ho2⟩ : ∃ q, (y.n == x2) = q := ⟨_, rfl⟩
                  have hek : eqK y.t y.n x1 x2 = (o1 && o2) := by unfold eqK; rw [ho1, ho2]
                  rw [hek] at hal
                  obtain ⟨own, hown⟩ : ∃ q, (o1 && o2) = q := ⟨_, rfl⟩
                  rw [hown] at hal hek
                  have HEK := Lib.hid hek
                  have HOW := Lib.hid hown
                  have HME := Lib.hid hmem
                  clear hc hy hek hown hmem
                  rcases fidx_cases (isB y.t y.n) l with ⟨ef, hno⟩ | ⟨j, hj, ef, hp, hbef⟩
                  · rw [find_no hno] at hst hal
                    simp only [Option.isSome_none, Bool.false_or, Option.any_none, Bool.and_false] at hst hal
                    have HST := Lib.hid hst
                    have HAL := Lib.hid hal
                    rw [ef] at K49
                    have NOF : Hid (own = false → m.all (fun s => (lookT l s.t s.n).isSome || eqK s.t s.n x1 x2) = false) := fun h => by
                      rw [List.all_eq_false]
                      exact ⟨y, HME.out, by rw [look_find DL'.out, find_no hno, HEK.out, h]; simp⟩
                    clear ef hno hst hal
                    obtain ⟨y1, y2, y3, y4⟩ := y
                    simp only at ho1 ho2 K49
                    cases o1
                    case false =>
                      obtain rfl : own = false := HOW.out.symm
                      obtain ⟨a0, a1, a2, a3⟩ := S4.out
                      simp only at a0 a1 a2 a3
                      go_upto_region 7 with fail
                      have Et0 := fun X : BW _ => upc t0 X.same
                      have Et1 := fun X : BW _ => upc t1 X.same
                      have Et2 := fun X : BW _ => upc t2 X.same
                      have Et3 := fun X : BW _ => upc t3 X.same
                      have Et4 := fun X : BW _ => upc t4 X.same
                      have Et5 := fun X : BW _ => upc t5 X.same
                      have Ea0 := fun X : BW _ => upc a0 X.same
                      have Ea1 := fun X : BW _ => upc a1 X.same
                      have Ea2 := fun X : BW _ => upc a2 X.same
                      have Ea3 := fun X : BW _ => upc a3 X.same
                      clear t0 t1 t2 t3 t4 t5 a0 a1 a2 a3
                      refine wp_region_quietB (by kernel_rfl) (by kernel_rfl) ?_
                      repeat (go_big_quiet_step (fail))
                      refine wpQuiet_nil ?_
                      rintro wz ⟨⟨wu, hbu⟩, rfl⟩
                      replace HB := Lib.hid (HB.out.trans (hbu.mono HB.out.size))
                      replace T6 := Lib.hid (T6.out.up hbu)
                      replace S4 := Lib.hid (S4.out.up hbu)
                      clear hbu Et0 Et1 Et2 Et3 Et4 Et5 Ea0 Ea1 Ea2 Ea3
                      have K49x := Lib.hid (fun X : BW wz => K49.out X.to (HB.out.trans (X.same.mono HB.out.size)))
                      obtain ⟨t0, t1, t2, t3, t4, t5⟩ := T6.out
                      simp only at t0 t1 t2 t3 t4 t5
                      obtain ⟨a0, a1, a2, a3⟩ := S4.out
                      simp only at a0 a1 a2 a3
                      go_upto_region 8 with fail
                      have Et0 := fun X : BW _ => upc t0 X.same
                      have Et1 := fun X : BW _ => upc t1 X.same
                      have Et2 := fun X : BW _ => upc t2 X.same
                      have Et3 := fun X : BW _ => upc t3 X.same
                      have Et4 := fun X : BW _ => upc t4 X.same
                      have Et5 := fun X : BW _ => upc t5 X.same
                      have Ea0 := fun X : BW _ => upc a0 X.same
                      have Ea1 := fun X : BW _ => upc a1 X.same
                      have Ea2 := fun X : BW _ => upc a2 X.same
                      have Ea3 := fun X : BW _ => upc a3 X.same
                      clear t0 t1 t2 t3 t4 t5 a0 a1 a2 a3
                      refine wp_region_quietB (by kernel_rfl) (by kernel_rfl) ?_
                      repeat (go_big_quiet_step ((go_at_call 49; exact quietB (K49x.out _))))
                      refine wpQuiet_nil ?_
                      rintro wz ⟨⟨wu, hbu⟩, rfl⟩
                      replace HB := Lib.hid (HB.out.trans (hbu.mono HB.out.size))
                      replace T6 := Lib.hid (T6.out.up hbu)
                      replace S4 := Lib.hid (S4.out.up hbu)
                      clear hbu Et0 Et1 Et2 Et3 Et4 Et5 Ea0 Ea1 Ea2 Ea3
                      obtain ⟨t0, t1, t2, t3, t4, t5⟩ := T6.out
                      simp only at t0 t1 t2 t3 t4 t5
                      clear t0 t1 t2 t3 t4 t5
                      go_wp2_with fail
                      go_ret
                      exact ⟨by rw [HT'.out, NOF.out (by trivial)]; rfl, HB.out⟩
                    case true =>
                      cases o2
                      case false =>
                        obtain rfl : own = false := HOW.out.symm
                        obtain ⟨a0, a1, a2, a3⟩ := S4.out
                        simp only at a0 a1 a2 a3
                        go_upto_region 7 with fail
                        have Et0 := fun X : BW _ => upc t0 X.same
                        have Et1 := fun X : BW _ => upc t1 X.same
                        have Et2 := fun X : BW _ => upc t2 X.same
                        have Et3 := fun X : BW _ => upc t3 X.same
                        have Et4 := fun X : BW _ => upc t4 X.same
                        have Et5 := fun X : BW _ => upc t5 X.same
                        have Ea0 := fun X : BW _ => upc a0 X.same
                        have Ea1 := fun X : BW _ => upc a1 X.same
                        have Ea2 := fun X : BW _ => upc a2 X.same
                        have Ea3 := fun X : BW _ => upc a3 X.same
                        clear t0 t1 t2 t3 t4 t5 a0 a1 a2 a3
                        refine wp_region_quietB (by kernel_rfl) (by kernel_rfl) ?_
                        repeat (go_big_quiet_step (fail))
                        refine wpQuiet_nil ?_
                        rintro wz ⟨⟨wu, hbu⟩, rfl⟩
                        replace HB := Lib.hid (HB.out.trans (hbu.mono HB.out.size))
                        replace T6 := Lib.hid (T6.out.up hbu)
                        replace S4 := Lib.hid (S4.out.up hbu)
                        clear hbu Et0 Et1 Et2 Et3 Et4 Et5 Ea0 Ea1 Ea2 Ea3
                        have K49x := Lib.hid (fun X : BW wz => K49.out X.to (HB.out.trans (X.same.mono HB.out.size)))
                        obtain ⟨t0, t1, t2, t3, t4, t5⟩ := T6.out
                        simp only at t0 t1 t2 t3 t4 t5
                        obtain ⟨a0, a1, a2, a3⟩ := S4.out
                        simp only at a0 a1 a2 a3
                        go_upto_region 8 with fail
                        have Et0 := fun X : BW _ => upc t0 X.same
                        have Et1 := fun X : BW _ => upc t1 X.same
                        have Et2 := fun X : BW _ => upc t2 X.same
                        have Et3 := fun X : BW _ => upc t3 X.same
                        have Et4 := fun X : BW _ => upc t4 X.same
                        have Et5 := fun X : BW _ => upc t5 X.same
                        have Ea0 := fun X : BW _ => upc a0 X.same
                        have Ea1 := fun X : BW _ => upc a1 X.same
                        have Ea2 := fun X : BW _ => upc a2 X.same
                        have Ea3 := fun X : BW _ => upc a3 X.same
                        clear t0 t1 t2 t3 t4 t5 a0 a1 a2 a3
                        refine wp_region_quietB (by kernel_rfl) (by kernel_rfl) ?_
                        repeat (go_big_quiet_step ((go_at_call 49; exact quietB (K49x.out _))))
                        refine wpQuiet_nil ?_
                        rintro wz ⟨⟨wu, hbu⟩, rfl⟩
                        replace HB := Lib.hid (HB.out.trans (hbu.mono HB.out.size))
                        replace T6 := Lib.hid (T6.out.up hbu)
                        replace S4 := Lib.hid (S4.out.up hbu)
                        clear hbu Et0 Et1 Et2 Et3 Et4 Et5 Ea0 Ea1 Ea2 Ea3
                        obtain ⟨t0, t1, t2, t3, t4, t5⟩ := T6.out
                        simp only at t0 t1 t2 t3 t4 t5
                        clear t0 t1 t2 t3 t4 t5
                        go_wp2_with fail
                        go_ret
                        exact ⟨by rw [HT'.out, NOF.out (by trivial)]; rfl, HB.out⟩
                      case true =>
                        obtain rfl : own = true := HOW.out.symm
                        obtain ⟨a0, a1, a2, a3⟩ := S4.out
                        simp only at a0 a1 a2 a3
                        go_upto_region 7 with fail
                        have Et0 := fun X : BW _ => upc t0 X.same
                        have Et1 := fun X : BW _ => upc t1 X.same
                        have Et2 := fun X : BW _ => upc t2 X.same
                        have Et3 := fun X : BW _ => upc t3 X.same
                        have Et4 := fun X : BW _ => upc t4 X.same
                        have Et5 := fun X : BW _ => upc t5 X.same
                        have Ea0 := fun X : BW _ => upc a0 X.same
                        have Ea1 := fun X : BW _ => upc a1 X.same
                        have Ea2 := fun X : BW _ => upc a2 X.same
                        have Ea3 := fun X : BW _ => upc a3 X.same
                        clear t0 t1 t2 t3 t4 t5 a0 a1 a2 a3
                        refine wp_region_quietB (by kernel_rfl) (by kernel_rfl) ?_
                        repeat (go_big_quiet_step (fail))
                        refine wpQuiet_nil ?_
                        rintro wz ⟨⟨wu, hbu⟩, rfl⟩
                        replace HB := Lib.hid (HB.out.trans (hbu.mono HB.out.size))
                        replace T6 := Lib.hid (T6.out.up hbu)
                        replace S4 := Lib.hid (S4.out.up hbu)
                        clear hbu Et0 Et1 Et2 Et3 Et4 Et5 Ea0 Ea1 Ea2 Ea3
                        have K49x := Lib.hid (fun X : BW wz => K49.out X.to (HB.out.trans (X.same.mono HB.out.size)))
                        obtain ⟨t0, t1, t2, t3, t4, t5⟩ := T6.out
                        simp only at t0 t1 t2 t3 t4 t5
                        obtain ⟨a0, a1, a2, a3⟩ := S4.out
                        simp only at a0 a1 a2 a3
                        go_upto_region 8 with fail
                        have Et0 := fun X : BW _ => upc t0 X.same
                        have Et1 := fun X : BW _ => upc t1 X.same
                        have Et2 := fun X : BW _ => upc t2 X.same
                        have Et3 := fun X : BW _ => upc t3 X.same
                        have Et4 := fun X : BW _ => upc t4 X.same
                        have Et5 := fun X : BW _ => upc t5 X.same
                        have Ea0 := fun X : BW _ => upc a0 X.same
                        have Ea1 := fun X : BW _ => upc a1 X.same
                        have Ea2 := fun X : BW _ => upc a2 X.same
                        have Ea3 := fun X : BW _ => upc a3 X.same
                        clear t0 t1 t2 t3 t4 t5 a0 a1 a2 a3
                        refine wp_region_quietB (by kernel_rfl) (by kernel_rfl) ?_
                        repeat (go_big_quiet_step ((go_at_call 49; exact quietB (K49x.out _))))
                        refine wpQuiet_nil ?_
                        rintro wz ⟨⟨wu, hbu⟩, rfl⟩
                        replace HB := Lib.hid (HB.out.trans (hbu.mono HB.out.size))
                        replace T6 := Lib.hid (T6.out.up hbu)
                        replace S4 := Lib.hid (S4.out.up hbu)
                        clear hbu Et0 Et1 Et2 Et3 Et4 Et5 Ea0 Ea1 Ea2 Ea3
                        obtain ⟨t0, t1, t2, t3, t4, t5⟩ := T6.out
                        simp only at t0 t1 t2 t3 t4 t5
                        clear t0 t1 t2 t3 t4 t5
                        cases sm
                        all_goals
                          go_upto_region 11 with fail
                          refine wp_region_quietB (by kernel_rfl) (by kernel_rfl) ?_
                          repeat (go_big_quiet_step (fail))
                          refine wpQuiet_nil ?_
                          rintro wz ⟨⟨wu, hbu⟩, rfl⟩
                          replace HB := Lib.hid (HB.out.trans (hbu.mono HB.out.size))
                          replace T6 := Lib.hid (T6.out.up hbu)
                          replace S4 := Lib.hid (S4.out.up hbu)
                          clear hbu 
                          go_wp2_with fail
                          go_roundw
                          case rel => exact ⟨k + 1, by omega, by show _ = _; rw [HST.out]; try rfl, by go_num, by show _ = _; rw [HAL.out], T6, HB⟩
                          case measure => simp [intOf]; omega
                  · rw [find_yes hj hp hbef] at hst hal
                    simp only [Option.isSome_some, Bool.true_or, Option.any_some] at hst hal
                    obtain ⟨b2, o2', rfl, hc2⟩ := HR.out (by intro h; subst h; simp at hj)
                    have M4 := Lib.hid ((hc2 j hj).up HB.out)
                    obtain ⟨z, hz⟩ : ∃ y, l[j]'hj = y := ⟨_, rfl⟩
                    rw [hz] at M4 hst
                    obtain ⟨eq, heq⟩ : ∃ q, eqS z y = q := ⟨_, rfl⟩
                    rw [heq] at hst
                    have HST := Lib.hid hst
                    have HAL := Lib.hid hal
                    have hj' : (j : Int) < (l.length : Int) := by omega
                    have hj0 : decide ((j : Int) < 0) = false := decide_eq_false (by omega)
                    have hj1 : decide ((0 : Int) ≤ (j : Int)) = true := decide_eq_true (by omega)
                    rw [ef] at K49
                    have hel := fun w => eql53 z y w
                    rw [heq] at hel
                    have HEL := Lib.hid hel
                    clear ef hp hbef hst hal hz heq hc2 hel
                    obtain ⟨y1, y2, y3, y4⟩ := y
                    obtain ⟨z1, z2, z3, z4⟩ := z
                    simp only at ho1 ho2 K49
                    cases o1
                    case false =>
                      obtain ⟨a0, a1, a2, a3⟩ := S4.out
                      simp only at a0 a1 a2 a3
                      go_upto_region 7 with fail
                      have Et0 := fun X : BW _ => upc t0 X.same
                      have Et1 := fun X : BW _ => upc t1 X.same
                      have Et2 := fun X : BW _ => upc t2 X.same
                      have Et3 := fun X : BW _ => upc t3 X.same
                      have Et4 := fun X : BW _ => upc t4 X.same
                      have Et5 := fun X : BW _ => upc t5 X.same
                      have Ea0 := fun X : BW _ => upc a0 X.same
                      have Ea1 := fun X : BW _ => upc a1 X.same
                      have Ea2 := fun X : BW _ => upc a2 X.same
                      have Ea3 := fun X : BW _ => upc a3 X.same
                      clear t0 t1 t2 t3 t4 t5 a0 a1 a2 a3
                      refine wp_region_quietB (by kernel_rfl) (by kernel_rfl) ?_
                      repeat (go_big_quiet_step (fail))
                      refine wpQuiet_nil ?_
                      rintro wz ⟨⟨wu, hbu⟩, rfl⟩
                      replace HB := Lib.hid (HB.out.trans (hbu.mono HB.out.size))
                      replace T6 := Lib.hid (T6.out.up hbu)
                      replace S4 := Lib.hid (S4.out.up hbu)
                      replace M4 := Lib.hid (M4.out.up hbu)
                      clear hbu Et0 Et1 Et2 Et3 Et4 Et5 Ea0 Ea1 Ea2 Ea3
                      have K49x := Lib.hid (fun X : BW wz => K49.out X.to (HB.out.trans (X.same.mono HB.out.size)))
                      obtain ⟨t0, t1, t2, t3, t4, t5⟩ := T6.out
                      simp only at t0 t1 t2 t3 t4 t5
                      obtain ⟨a0, a1, a2, a3⟩ := S4.out
                      simp only at a0 a1 a2 a3
                      go_upto_region 8 with fail
                      have Et0 := fun X : BW _ => upc t0 X.same
                      have Et1 := fun X : BW _ => upc t1 X.same
                      have Et2 := fun X : BW _ => upc t2 X.same
                      have Et3 := fun X : BW _ => upc t3 X.same
                      have Et4 := fun X : BW _ => upc t4 X.same
                      have Et5 := fun X : BW _ => upc t5 X.same
                      have Ea0 := fun X : BW _ => upc a0 X.same
                      have Ea1 := fun X : BW _ => upc a1 X.same
                      have Ea2 := fun X : BW _ => upc a2 X.same
                      have Ea3 := fun X : BW _ => upc a3 X.same
                      clear t0 t1 t2 t3 t4 t5 a0 a1 a2 a3
                      refine wp_region_quietB (by kernel_rfl) (by kernel_rfl) ?_
                      repeat (go_big_quiet_step ((go_at_call 49; exact quietB (K49x.out _))))
                      refine wpQuiet_nil ?_
                      rintro wz ⟨⟨wu, hbu⟩, rfl⟩
                      replace HB := Lib.hid (HB.out.trans (hbu.mono HB.out.size))
                      replace T6 := Lib.hid (T6.out.up hbu)
                      replace S4 := Lib.hid (S4.out.up hbu)
                      replace M4 := Lib.hid (M4.out.up hbu)
                      clear hbu Et0 Et1 Et2 Et3 Et4 Et5 Ea0 Ea1 Ea2 Ea3
                      obtain ⟨t0, t1, t2, t3, t4, t5⟩ := T6.out
                      simp only at t0 t1 t2 t3 t4 t5
                      cases sm
                      case false =>
                        clear t0 t1 t2 t3 t4 t5
                        go_upto_region 11 with fail
                        refine wp_region_quietB (by kernel_rfl) (by kernel_rfl) ?_
                        repeat (go_big_quiet_step (fail))
                        refine wpQuiet_nil ?_
                        rintro wz ⟨⟨wu, hbu⟩, rfl⟩
                        replace HB := Lib.hid (HB.out.trans (hbu.mono HB.out.size))
                        replace T6 := Lib.hid (T6.out.up hbu)
                        replace S4 := Lib.hid (S4.out.up hbu)
                        replace M4 := Lib.hid (M4.out.up hbu)
                        clear hbu 
                        go_wp2_with fail
                        go_roundw
                        case rel => exact ⟨k + 1, by omega, by show _ = _; rw [HST.out]; try rfl, by go_num, by show _ = _; rw [HAL.out], T6, HB⟩
                        case measure => simp [intOf]; omega
                      case true =>
                        obtain ⟨a0, a1, a2, a3⟩ := S4.out
                        simp only at a0 a1 a2 a3
                        obtain ⟨m0, m1, m2, m3⟩ := M4.out
                        simp only at m0 m1 m2 m3
                        have hel : ∀ w, (binOp .eql 53 (.agg #[.int .i64 z1, .int .i64 z2, .int .i64 z3, .int .i64 z4]) (.agg #[.int .i64 y1, .int .i64 y2, .int .i64 y3, .int .i64 y4])).run Try.prog w = .ok (.bool eq) w := HEL.out
                        go_upto_region 11 with fail
                        have Et0 := fun X : BW _ => upc t0 X.same
                        have Et1 := fun X : BW _ => upc t1 X.same
                        have Et2 := fun X : BW _ => upc t2 X.same
                        have Et3 := fun X : BW _ => upc t3 X.same
                        have Et4 := fun X : BW _ => upc t4 X.same
                        have Et5 := fun X : BW _ => upc t5 X.same
                        have Ea0 := fun X : BW _ => upc a0 X.same
                        have Ea1 := fun X : BW _ => upc a1 X.same
                        have Ea2 := fun X : BW _ => upc a2 X.same
                        have Ea3 := fun X : BW _ => upc a3 X.same
                        have Em0 := fun X : BW _ => upc m0 X.same
                        have Em1 := fun X : BW _ => upc m1 X.same
                        have Em2 := fun X : BW _ => upc m2 X.same
                        have Em3 := fun X : BW _ => upc m3 X.same
                        clear t0 t1 t2 t3 t4 t5 a0 a1 a2 a3 m0 m1 m2 m3
                        refine wp_region_quietB (by kernel_rfl) (by kernel_rfl) ?_
                        repeat (go_big_quiet_step (fail))
                        refine wpQuiet_nil ?_
                        rintro wz ⟨⟨wu, hbu⟩, rfl⟩
                        replace HB := Lib.hid (HB.out.trans (hbu.mono HB.out.size))
                        replace T6 := Lib.hid (T6.out.up hbu)
                        replace S4 := Lib.hid (S4.out.up hbu)
                        replace M4 := Lib.hid (M4.out.up hbu)
                        clear hbu Et0 Et1 Et2 Et3 Et4 Et5 Ea0 Ea1 Ea2 Ea3 Em0 Em1 Em2 Em3
                        clear hel
                        cases eq
                        all_goals
                          go_wp2_with fail
                          go_roundw
                          case rel => exact ⟨k + 1, by omega, by show _ = _; rw [HST.out]; try rfl, by go_num, by show _ = _; rw [HAL.out], T6, HB⟩
                          case measure => simp [intOf]; omega
                    case true =>
                      cases o2
                      all_goals
                        obtain ⟨a0, a1, a2, a3⟩ := S4.out
                        simp only at a0 a1 a2 a3
                        go_upto_region 7 with fail
                        have Et0 := fun X : BW _ => upc t0 X.same
                        have Et1 := fun X : BW _ => upc t1 X.same
                        have Et2 := fun X : BW _ => upc t2 X.same
                        have Et3 := fun X : BW _ => upc t3 X.same
                        have Et4 := fun X : BW _ => upc t4 X.same
                        have Et5 := fun X : BW _ => upc t5 X.same
                        have Ea0 := fun X : BW _ => upc a0 X.same
                        have Ea1 := fun X : BW _ => upc a1 X.same
                        have Ea2 := fun X : BW _ => upc a2 X.same
                        have Ea3 := fun X : BW _ => upc a3 X.same
                        clear t0 t1 t2 t3 t4 t5 a0 a1 a2 a3
                        refine wp_region_quietB (by kernel_rfl) (by kernel_rfl) ?_
                        repeat (go_big_quiet_step (fail))
                        refine wpQuiet_nil ?_
                        rintro wz ⟨⟨wu, hbu⟩, rfl⟩
                        replace HB := Lib.hid (HB.out.trans (hbu.mono HB.out.size))
                        replace T6 := Lib.hid (T6.out.up hbu)
                        replace S4 := Lib.hid (S4.out.up hbu)
                        replace M4 := Lib.hid (M4.out.up hbu)
                        clear hbu Et0 Et1 Et2 Et3 Et4 Et5 Ea0 Ea1 Ea2 Ea3
                        have K49x := Lib.hid (fun X : BW wz => K49.out X.to (HB.out.trans (X.same.mono HB.out.size)))
                        obtain ⟨t0, t1, t2, t3, t4, t5⟩ := T6.out
                        simp only at t0 t1 t2 t3 t4 t5
                        obtain ⟨a0, a1, a2, a3⟩ := S4.out
                        simp only at a0 a1 a2 a3
                        go_upto_region 8 with fail
                        have Et0 := fun X : BW _ => upc t0 X.same
                        have Et1 := fun X : BW _ => upc t1 X.same
                        have Et2 := fun X : BW _ => upc t2 X.same
                        have Et3 := fun X : BW _ => upc t3 X.same
                        have Et4 := fun X : BW _ => upc t4 X.same
                        have Et5 := fun X : BW _ => upc t5 X.same
                        have Ea0 := fun X : BW _ => upc a0 X.same
                        have Ea1 := fun X : BW _ => upc a1 X.same
                        have Ea2 := fun X : BW _ => upc a2 X.same
                        have Ea3 := fun X : BW _ => upc a3 X.same
                        clear t0 t1 t2 t3 t4 t5 a0 a1 a2 a3
                        refine wp_region_quietB (by kernel_rfl) (by kernel_rfl) ?_
                        repeat (go_big_quiet_step ((go_at_call 49; exact quietB (K49x.out _))))
                        refine wpQuiet_nil ?_
                        rintro wz ⟨⟨wu, hbu⟩, rfl⟩
                        replace HB := Lib.hid (HB.out.trans (hbu.mono HB.out.size))
                        replace T6 := Lib.hid (T6.out.up hbu)
                        replace S4 := Lib.hid (S4.out.up hbu)
                        replace M4 := Lib.hid (M4.out.up hbu)
                        clear hbu Et0 Et1 Et2 Et3 Et4 Et5 Ea0 Ea1 Ea2 Ea3
                        obtain ⟨t0, t1, t2, t3, t4, t5⟩ := T6.out
                        simp only at t0 t1 t2 t3 t4 t5
                        cases sm
                        case false =>
                          clear t0 t1 t2 t3 t4 t5
                          go_upto_region 11 with fail
                          refine wp_region_quietB (by kernel_rfl) (by kernel_rfl) ?_
                          repeat (go_big_quiet_step (fail))
                          refine wpQuiet_nil ?_
                          rintro wz ⟨⟨wu, hbu⟩, rfl⟩
                          replace HB := Lib.hid (HB.out.trans (hbu.mono HB.out.size))
                          replace T6 := Lib.hid (T6.out.up hbu)
                          replace S4 := Lib.hid (S4.out.up hbu)
                          replace M4 := Lib.hid (M4.out.up hbu)
                          clear hbu 
                          go_wp2_with fail
                          go_roundw
                          case rel => exact ⟨k + 1, by omega, by show _ = _; rw [HST.out]; try rfl, by go_num, by show _ = _; rw [HAL.out], T6, HB⟩
                          case measure => simp [intOf]; omega
                        case true =>
                          obtain ⟨a0, a1, a2, a3⟩ := S4.out
                          simp only at a0 a1 a2 a3
                          obtain ⟨m0, m1, m2, m3⟩ := M4.out
                          simp only at m0 m1 m2 m3
                          have hel : ∀ w, (binOp .eql 53 (.agg #[.int .i64 z1, .int .i64 z2, .int .i64 z3, .int .i64 z4]) (.agg #[.int .i64 y1, .int .i64 y2, .int .i64 y3, .int .i64 y4])).run Try.prog w = .ok (.bool eq) w := HEL.out
                          go_upto_region 11 with fail
                          have Et0 := fun X : BW _ => upc t0 X.same
                          have Et1 := fun X : BW _ => upc t1 X.same
                          have Et2 := fun X : BW _ => upc t2 X.same
                          have Et3 := fun X : BW _ => upc t3 X.same
                          have Et4 := fun X : BW _ => upc t4 X.same
                          have Et5 := fun X : BW _ => upc t5 X.same
                          have Ea0 := fun X : BW _ => upc a0 X.same
                          have Ea1 := fun X : BW _ => upc a1 X.same
                          have Ea2 := fun X : BW _ => upc a2 X.same
                          have Ea3 := fun X : BW _ => upc a3 X.same
                          have Em0 := fun X : BW _ => upc m0 X.same
                          have Em1 := fun X : BW _ => upc m1 X.same
                          have Em2 := fun X : BW _ => upc m2 X.same
                          have Em3 := fun X : BW _ => upc m3 X.same
                          clear t0 t1 t2 t3 t4 t5 a0 a1 a2 a3 m0 m1 m2 m3
                          refine wp_region_quietB (by kernel_rfl) (by kernel_rfl) ?_
                          repeat (go_big_quiet_step (fail))
                          refine wpQuiet_nil ?_
                          rintro wz ⟨⟨wu, hbu⟩, rfl⟩
                          replace HB := Lib.hid (HB.out.trans (hbu.mono HB.out.size))
                          replace T6 := Lib.hid (T6.out.up hbu)
                          replace S4 := Lib.hid (S4.out.up hbu)
                          replace M4 := Lib.hid (M4.out.up hbu)
                          clear hbu Et0 Et1 Et2 Et3 Et4 Et5 Ea0 Ea1 Ea2 Ea3 Em0 Em1 Em2 Em3
                          clear hel
                          cases eq
                          all_goals
                            go_wp2_with fail
                            go_roundw
                            case rel => exact ⟨k + 1, by omega, by show _ = _; rw [HST.out]; try rfl, by go_num, by show _ = _; rw [HAL.out], T6, HB⟩
                            case measure => simp [intOf]; omega
                · obtain rfl : k = m.length := by omega
                  rw [List.take_length] at HALL
                  have HF : Hid (thrB l m ⟨x1, x2, x3, x4, x5⟩ = (!x4 || sm)) := by show _ = _; rw [HT'.out, HALL.out, ← SB'.out, HSM.out]; rfl
                  clear HALL HSM SB' HT'
                  cases x4
                  all_goals
                    go_wp2_with fail
                    go_ret
                    exact ⟨by rw [HF.out]; rfl, HB.out⟩
end Go.Proofs.Ytomcpgdpjpjioaa
