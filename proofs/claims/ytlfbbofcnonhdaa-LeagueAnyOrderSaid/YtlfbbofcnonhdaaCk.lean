/- Contracts: valid, Check. -/
import Derived.Test.YtlfbbofcnonhdaaMk
namespace Go.Proofs.Ytlfbbofcnonhdaa
open Go.RowKit Go.Proofs Go.Shelf
attribute [local go_sem] Oper.semAt_some

/-- A result. -/
structure Re where
 a : Int
 b : Int
 p0 : Int
 p1 : Int
 m0 : Int
 m1 : Int
def eR (x : Re) : List Value := [.int .i64 x.a, .int .i64 x.b, .int .i64 x.p0, .int .i64 x.p1, .int .i64 x.m0, .int .i64 x.m1]
abbrev Rev (x : Re) : Value := .agg #[.int .i64 x.a, .int .i64 x.b, .int .i64 x.p0, .int .i64 x.p1, .int .i64 x.m0, .int .i64 x.m1]
theorem ER : Enc 6 eR := ⟨fun _ => rfl, fun x v h => by simp [eR] at h; rcases h with rfl | rfl | rfl | rfl | rfl | rfl <;> rfl⟩
def vldB (T : Int) (x : Re) : Bool := decide ((0 ≤ x.p0 ∧ x.p0 ≤ 1000) ∧ (0 ≤ x.m0 ∧ x.m0 ≤ 100000) ∧ (0 ≤ x.p1 ∧ x.p1 ≤ 1000) ∧ (0 ≤ x.m1 ∧ x.m1 ≤ 100000) ∧ (0 ≤ x.a ∧ x.a ≤ T - 1) ∧ (0 ≤ x.b ∧ x.b ≤ T - 1) ∧ x.a ≠ x.b ∧ x.p0 ≠ x.p1)
theorem within_q {n a b : Int} {q : Bool} (h : decide (a ≤ n ∧ n ≤ b) = q) : Hid (∀ w, Calls Try.prog 47 #[.int .i64 n, .int .i64 a, .int .i64 b] w fun e w' => e = .returned (.bool q) ∧ w = w') := fun w => by
 have := within47 n a b w; rwa [h] at this

set_option maxRecDepth 100000 in
set_option maxHeartbeats 2000000 in
theorem valid70 (T : Int) (x : Re) (w : World) (hT : 2 ≤ T ∧ T ≤ 16) : Calls Try.prog 70 #[.int .i64 T, Rev x] w (Back (.bool (vldB T x)) w) := by
 obtain ⟨a, b, p0, p1, m0, m1⟩ := x
 obtain ⟨r, hr⟩ : ∃ r, vldB T ⟨a, b, p0, p1, m0, m1⟩ = r := ⟨_, rfl⟩
 obtain ⟨q0, hq0⟩ : ∃ q, decide (0 ≤ p0 ∧ p0 ≤ 1000) = q := ⟨_, rfl⟩
 obtain ⟨q1, hq1⟩ : ∃ q, decide (0 ≤ m0 ∧ m0 ≤ 100000) = q := ⟨_, rfl⟩
 obtain ⟨q2, hq2⟩ : ∃ q, decide (0 ≤ p1 ∧ p1 ≤ 1000) = q := ⟨_, rfl⟩
 obtain ⟨q3, hq3⟩ : ∃ q, decide (0 ≤ m1 ∧ m1 ≤ 100000) = q := ⟨_, rfl⟩
 obtain ⟨q4, hq4⟩ : ∃ q, decide (0 ≤ a ∧ a ≤ T - 1) = q := ⟨_, rfl⟩
 obtain ⟨q5, hq5⟩ : ∃ q, decide (0 ≤ b ∧ b ≤ T - 1) = q := ⟨_, rfl⟩
 have H0 := within_q hq0
 have H1 := within_q hq1
 have H2 := within_q hq2
 have H3 := within_q hq3
 have H4 := within_q hq4
 have H5 := within_q hq5
 have HR : Hid ((q0 && (q1 && (q2 && (q3 && (q4 && (q5 && (!(a == b) && !(p0 == p1)))))))) = r) := by
  show _ = _
  rw [← hr, ← hq0, ← hq1, ← hq2, ← hq3, ← hq4, ← hq5]
  unfold vldB
  rw [Bool.eq_iff_iff]
  simp
 rw [hr]
 clear hr hq0 hq1 hq2 hq3 hq4 hq5
 have X0 : Hid (Below w.heap.size w (w.alloc (.cells #[.int .i64 a, .int .i64 b, .int .i64 p0, .int .i64 p1, .int .i64 m0, .int .i64 m1] 56))) := (Below.refl _ _).alloc (Nat.le_refl _) _
 go_enter Try.func70, Try.ntmps70
 go_wp2_with fail
 go_loop [6] (fun kv => ∃ k : Nat, k ≤ 2 ∧ kv = .int .i64 k ∧ Hid (1 ≤ k → q0 = true ∧ q1 = true) ∧ Hid (2 ≤ k → q2 = true ∧ q3 = true)) (fun kv => 2 - (intOf kv).toNat)
 case atStart => exact ⟨0, by omega, rfl, fun h => by omega, fun h => by omega⟩
 case round =>
  obtain ⟨k, hk, rfl, g1, g2⟩ := hrel
  by_cases h0 : k = 0
  ·subst h0
   clear g1 g2 H2 H3 H4 H5
   cases q0
   ·obtain rfl : r = false := by rw [← HR.out]; rfl
    go_wp2_with (go_at_call 47; ((with_reducible refine (H0.out _).mono ?_); rintro e w1 ⟨rfl, rfl⟩))
    go_ret
    exact ⟨rfl, X0.out⟩
   ·cases q1
    ·obtain rfl : r = false := by rw [← HR.out]; rfl
     go_wp2_with (first
      | (go_at_call 47; ((with_reducible refine (H0.out _).mono ?_); rintro e w1 ⟨rfl, rfl⟩))
      | (go_at_call 47; ((with_reducible refine (H1.out _).mono ?_); rintro e w1 ⟨rfl, rfl⟩)))
     go_ret
     exact ⟨rfl, X0.out⟩
    ·go_wp2_with (first
      | (go_at_call 47; ((with_reducible refine (H0.out _).mono ?_); rintro e w1 ⟨rfl, rfl⟩))
      | (go_at_call 47; ((with_reducible refine (H1.out _).mono ?_); rintro e w1 ⟨rfl, rfl⟩)))
     go_round
     case rel => exact ⟨1, by omega, by go_num, fun _ => ⟨by trivial, by trivial⟩, fun h => by omega⟩
     case measure => simp [intOf]
  ·by_cases h1 : k = 1
   ·subst h1
    obtain ⟨rfl, rfl⟩ := g1.out (by omega)
    clear g1 g2 H0 H1 H4 H5 h0
    cases q2
    ·obtain rfl : r = false := by rw [← HR.out]; rfl
     go_wp2_with (go_at_call 47; ((with_reducible refine (H2.out _).mono ?_); rintro e w1 ⟨rfl, rfl⟩))
     go_ret
     exact ⟨rfl, X0.out⟩
    ·cases q3
     ·obtain rfl : r = false := by rw [← HR.out]; rfl
      go_wp2_with (first
       | (go_at_call 47; ((with_reducible refine (H2.out _).mono ?_); rintro e w1 ⟨rfl, rfl⟩))
       | (go_at_call 47; ((with_reducible refine (H3.out _).mono ?_); rintro e w1 ⟨rfl, rfl⟩)))
      go_ret
      exact ⟨rfl, X0.out⟩
     ·go_wp2_with (first
       | (go_at_call 47; ((with_reducible refine (H2.out _).mono ?_); rintro e w1 ⟨rfl, rfl⟩))
       | (go_at_call 47; ((with_reducible refine (H3.out _).mono ?_); rintro e w1 ⟨rfl, rfl⟩)))
      go_round
      case rel => exact ⟨2, by omega, by go_num, fun _ => ⟨by trivial, by trivial⟩, fun _ => ⟨by trivial, by trivial⟩⟩
      case measure => simp [intOf]
   ·obtain rfl : k = 2 := by omega
    obtain ⟨rfl, rfl⟩ := g1.out (by omega)
    obtain ⟨rfl, rfl⟩ := g2.out (by omega)
    clear g1 g2 H0 H1 H2 H3 h0 h1
    cases q4
    ·obtain rfl : r = false := by rw [← HR.out]; rfl
     go_wp2_with (go_at_call 47; ((with_reducible refine (H4.out _).mono ?_); rintro e w1 ⟨rfl, rfl⟩))
     go_ret
     exact ⟨rfl, X0.out⟩
    ·cases q5
     ·obtain rfl : r = false := by rw [← HR.out]; rfl
      go_wp2_with (first
       | (go_at_call 47; ((with_reducible refine (H4.out _).mono ?_); rintro e w1 ⟨rfl, rfl⟩))
       | (go_at_call 47; ((with_reducible refine (H5.out _).mono ?_); rintro e w1 ⟨rfl, rfl⟩)))
      go_ret
      exact ⟨rfl, X0.out⟩
     ·by_cases hab : a = b
      ·subst hab
       obtain rfl : r = false := by rw [← HR.out]; simp
       go_wp2_with (first
        | (go_at_call 47; ((with_reducible refine (H4.out _).mono ?_); rintro e w1 ⟨rfl, rfl⟩))
        | (go_at_call 47; ((with_reducible refine (H5.out _).mono ?_); rintro e w1 ⟨rfl, rfl⟩)))
       go_ret
       exact ⟨rfl, X0.out⟩
      ·have hab1 : (a == b) = false := beq_eq_false_iff_ne.2 hab
       have hab2 : (a != b) = true := by rw [bne_iff_ne]; exact hab
       clear hab
       by_cases hpp : p0 = p1
       ·subst hpp
        obtain rfl : r = false := by rw [← HR.out]; simp
        go_wp2_with (first
         | (go_at_call 47; ((with_reducible refine (H4.out _).mono ?_); rintro e w1 ⟨rfl, rfl⟩))
         | (go_at_call 47; ((with_reducible refine (H5.out _).mono ?_); rintro e w1 ⟨rfl, rfl⟩)))
        go_ret
        exact ⟨rfl, X0.out⟩
       ·have hp1 : (p0 == p1) = false := beq_eq_false_iff_ne.2 hpp
        have hp2 : (p0 != p1) = true := by rw [bne_iff_ne]; exact hpp
        obtain rfl : r = true := by rw [← HR.out, hab1, hp1]; rfl
        clear hpp
        go_wp2_with (first
         | (go_at_call 47; ((with_reducible refine (H4.out _).mono ?_); rintro e w1 ⟨rfl, rfl⟩))
         | (go_at_call 47; ((with_reducible refine (H5.out _).mono ?_); rintro e w1 ⟨rfl, rfl⟩)))
        go_ret
        exact ⟨rfl, X0.out⟩
def keyR (x : Re) : Int × Int := (min x.a x.b, max x.a x.b)
def okR (T : Int) : List (Int × Int) → List Re → Bool
 | _, [] => true
 | s, x :: l => vldB T x && !s.contains (keyR x) && okR T (keyR x :: s) l
/-- Why results are none. -/
def chkE (T : Int) (l : List Re) : Int := if ¬ (2 ≤ T ∧ T ≤ 16) then 4 else if 300 < l.length then 3 else if okR T [] l then 0 else 2
def W6 (x : Re) : Prop := (W64 x.a ∧ W64 x.b) ∧ (W64 x.p0 ∧ W64 x.p1) ∧ W64 x.m0 ∧ W64 x.m1
theorem keyR_w {x : Re} (h : W6 x) : W2 (keyR x) := by
 obtain ⟨⟨h1, h2⟩, -⟩ := h
 unfold W64 at h1 h2
 refine ⟨?_, ?_⟩ <;> unfold W64 keyR <;> simp only <;> omega
def setM (S : List (Int × Int)) : (Int × Int) → Option Bool := fun y => if S.contains y then some true else none
theorem setM_upd (S : List (Int × Int)) (x : Int × Int) : upd (setM S) x true = setM (x :: S) := by
 funext y
 unfold upd setM
 by_cases h : y = x <;> simp [h]
theorem setM_get (S : List (Int × Int)) (x : Int × Int) : (setM S x).getD false = S.contains x := by
 unfold setM; cases S.contains x <;> rfl
theorem MapF.lookP {w : World} {b n c : Nat} {S : List (Int × Int)} (h : MapF 42 4 kP W2 dB w b n c (setM S)) {x y : Int} (hx : W2 (x, y)) {d : Bool} (hd : S.contains (x, y) = d) :
  (Instr.lookup 39 (.map (some b)) (Pv x y) false).run Try.prog w = .ok (.bool d) w := by
 have := h.look K42 E4 Try.underlying39 hx
 rwa [setM_get, hd] at this
theorem MapF.putP {w : World} {b n c : Nat} {S : List (Int × Int)} (h : MapF 42 4 kP W2 dB w b n c (setM S)) (hn : n < 1000000) {x y : Int} (hx : W2 (x, y)) :
  ∃ w', (Instr.mapUpdate 39 (.map (some b)) (Pv x y) (.bool true)).run Try.prog w = .ok () w' ∧ MapF 42 4 kP W2 dB w' b (n + 1) (if S.contains (x, y) then c else c + 1) (setM ((x, y) :: S)) ∧ w.grownBy w' (some b) := by
 obtain ⟨w', h1, h2, h3⟩ := h.put K42 E4 Try.underlying39 hn hx (v := true) trivial
 rw [setM_upd] at h2
 have e : (setM S (x, y)).isSome = S.contains (x, y) := by unfold setM; cases S.contains (x, y) <;> rfl
 rw [e] at h2
 exact ⟨w', h1, h2, h3⟩
theorem below_put {n0 b : Nat} {w w' W : World} (h : Below n0 w W) (h0 : n0 ≤ w.heap.size) (hg : W.grownBy w' (some b)) (hb : n0 ≤ b) : Below n0 w w' :=
 h.grown hg (Nat.le_trans h0 h.size) (fun j e => by cases e; exact hb)
theorem HoldL.res {w : World} {b o : Nat} {l : List Re} (h : HoldL 6 eR w b o l) (j : Nat) (hj : j < l.length) : w.cell? ⟨b, o + j * 6, none⟩ = some (.int .i64 (l[j]'hj).a) ∧ w.cell? ⟨b, o + j * 6 + 1, none⟩ = some (.int .i64 (l[j]'hj).b) ∧ w.cell? ⟨b, o + j * 6 + 2, none⟩ = some (.int .i64 (l[j]'hj).p0) ∧ w.cell? ⟨b, o + j * 6 + 3, none⟩ = some (.int .i64 (l[j]'hj).p1) ∧ w.cell? ⟨b, o + j * 6 + 4, none⟩ = some (.int .i64 (l[j]'hj).m0) ∧ w.cell? ⟨b, o + j * 6 + 5, none⟩ = some (.int .i64 (l[j]'hj).m1) :=
 ⟨h j hj 0 (by omega), h j hj 1 (by omega), h j hj 2 (by omega), h j hj 3 (by omega), h j hj 4 (by omega), h j hj 5 (by omega)⟩

/-- Cells of a block. -/
def AtC (w : World) (b : Nat) (cs : List Value) : Prop := ∀ j u, cs[j]? = some u → w.cell? ⟨b, j, none⟩ = some u
theorem AtC.up {w w' : World} {b : Nat} {cs : List Value} (h : AtC w b cs) (hb : Below w.heap.size w w') : AtC w' b cs := fun j u hu => upc (h j u hu) hb
theorem AtC.kept {w w' : World} {b : Nat} {cs : List Value} {row : Option Nat} (h : AtC w b cs) (hg : w.grownBy w' row) (hne : some b ≠ row) : AtC w' b cs := fun j u hu => hg.cell (h j u hu) hne
theorem AtC.new (w : World) (cs : List Value) (t : TypeId) : AtC (w.alloc (.cells cs.toArray t)) w.heap.size cs := by
 intro j u hu
 have h := World.alloc_heap_new w (.cells cs.toArray t)
 unfold World.cell?
 rw [h]
 simp [hu]

theorem Check_out (T : Int) (A : Option Addr) (n c : Nat) (w : World) (hT : ¬ (2 ≤ T ∧ T ≤ 16)) : Calls Try.prog 29 #[.int .i64 T, .slice A n c] w (Back (.int .i64 4) w) := by
 have H := within_q (decide_eq_false hT)
 clear hT
 go_enter Try.func29, Try.ntmps29
 go_wp2_with (go_at_call 47; ((with_reducible refine (H.out _).mono ?_); rintro e w1 ⟨rfl, rfl⟩))
 go_ret
 exact ⟨rfl, Below.refl _ _⟩
theorem Check_long (T : Int) (A : Option Addr) (n c : Nat) (w : World) (hT : 2 ≤ T ∧ T ≤ 16) (hn : 300 < n) : Calls Try.prog 29 #[.int .i64 T, .slice A n c] w (Back (.int .i64 3) w) := by
 have H := within_q (decide_eq_true hT)
 have hn' : (300 : Int) < (n : Int) := by omega
 clear hT
 go_enter Try.func29, Try.ntmps29
 go_wp2_with (go_at_call 47; ((with_reducible refine (H.out _).mono ?_); rintro e w1 ⟨rfl, rfl⟩))
 go_ret
 exact ⟨rfl, Below.refl _ _⟩
set_option maxRecDepth 100000 in
set_option maxHeartbeats 4000000 in
theorem Check_in (T : Int) (l : List Re) (v : Value) (w : World) (hT : 2 ≤ T ∧ T ≤ 16) (hl : l.length ≤ 300) (hrow : Arr 6 eR w v l) (hw : ∀ x ∈ l, W6 x) : Calls Try.prog 29 #[.int .i64 T, v] w (Back (.int .i64 (if okR T [] l then 0 else 2)) w) := by
 have H := within_q (decide_eq_true hT)
 have HV := Lib.hid (fun x w => valid70 T x w hT)
 obtain ⟨r, hr⟩ : ∃ r, okR T [] l = r := ⟨_, rfl⟩
 have HR : Hid (okR T [] l = r) := hr
 rw [hr]
 obtain ⟨R, hR⟩ : ∃ R : Int, (if r then 0 else 2) = R := ⟨_, rfl⟩
 rw [hR]
 have HRR := Lib.hid hR
 clear hR
 have HROW := Lib.hid hrow
 have HW := Lib.hid hw
 obtain ⟨A, cap, rfl⟩ := hrow.form
 clear hT hrow hw hr
 have hl' : decide ((300 : Int) < (l.length : Int)) = false := decide_eq_false (by omega)
 have hmk : ∀ w, (Instr.makeMap 39 none).run Try.prog w = .ok (.map (some w.heap.size)) (w.alloc (.map #[] 0)) := fun w => by kernel_rfl
 have B0 : Hid (Below w.heap.size w (w.alloc (.map #[] 0))) := (Below.refl _ _).alloc (Nat.le_refl _) _
 have M0 : Hid (MapF 42 4 kP W2 dB (w.alloc (.map #[] 0)) w.heap.size 0 0 (setM [])) := MapF.made w
 go_enter Try.func29, Try.ntmps29
 go_wp2_with (go_at_call 47; ((with_reducible refine (H.out _).mono ?_); rintro e w1 ⟨rfl, rfl⟩))
 clear hmk
 go_loopw [20] (fun iv wr => ∃ k : Nat, k ≤ l.length ∧ iv = .int .i64 k ∧ w.heap.size < wr.heap.size ∧ Hid (∃ S c, MapF 42 4 kP W2 dB wr w.heap.size k c (setM S) ∧ okR T S (l.drop k) = r) ∧ Hid (Below w.heap.size w wr)) (fun iv _ => l.length - (intOf iv).toNat)
 case atStart => exact ⟨0, by omega, rfl, by simp, ⟨[], 0, M0.out, HR.out⟩, B0⟩
 case round =>
  obtain ⟨k, hk, rfl, hsz, ⟨S, c, hm, hok⟩, hb⟩ := hrel
  have HM := Lib.hid hm
  have HB := Lib.hid hb.out
  have HOK := Lib.hid hok
  clear hm hb hok M0 B0
  obtain ⟨wo, rfl⟩ : ∃ W, W = wr := ⟨_, rfl⟩
  by_cases hlt : k < l.length
  ·have hlt' : (k : Int) < (l.length : Int) := by omega
   obtain ⟨A', cap', h1, -, -, h4⟩ := HROW.out
   injection h1 with h1 z1 z2
   clear z1 z2
   obtain ⟨b, o, h5, hc⟩ := h4 (by intro h; subst h; simp at hlt)
   rw [h5] at h1
   subst h1
   obtain ⟨a0, a1, a2, a3, a4, a5⟩ := (hc.up ER HB.out).res k hlt
   clear h4 hc h5
   have HX : Hid (W6 (l[k]'hlt)) := HW.out _ (List.getElem_mem _)
   have hok := HOK.out
   rw [List.drop_eq_getElem_cons hlt] at hok
   obtain ⟨x, hx⟩ : ∃ x, l[k]'hlt = x := ⟨_, rfl⟩
   rw [hx] at a0 a1 a2 a3 a4 a5 hok HX
   obtain ⟨xa, xb, p0, p1, m0, m1⟩ := x
   simp only at a0 a1 a2 a3 a4 a5
   have HOK2 := Lib.hid hok
   have HVX := Lib.hid (fun w => HV.out ⟨xa, xb, p0, p1, m0, m1⟩ w)
   obtain ⟨q, hq⟩ : ∃ q, vldB T ⟨xa, xb, p0, p1, m0, m1⟩ = q := ⟨_, rfl⟩
   rw [hq] at HVX
   have HQ := Lib.hid hq
   clear hok hx hq
   go_upto_region 9 with fail
   have C1 : AtC (wo.alloc (.cells #[.int .i64 xa, .int .i64 xb, .int .i64 p0, .int .i64 p1, .int .i64 m0, .int .i64 m1] 56)) wo.heap.size (eR ⟨xa, xb, p0, p1, m0, m1⟩) := AtC.new wo _ _
   have B1 : Below wo.heap.size wo (wo.alloc (.cells #[.int .i64 xa, .int .i64 xb, .int .i64 p0, .int .i64 p1, .int .i64 m0, .int .i64 m1] 56)) := (Below.refl _ _).alloc (Nat.le_refl _) _
   have Z1 : wo.heap.size < (wo.alloc (.cells #[.int .i64 xa, .int .i64 xb, .int .i64 p0, .int .i64 p1, .int .i64 m0, .int .i64 m1] 56)).heap.size := by simp
   generalize World.alloc wo _ = wx at C1 B1 Z1 ⊢
   clear a0 a1 a2 a3 a4 a5
   have c0 := C1 0 _ rfl
   have c1 := C1 1 _ rfl
   go_upto_region 10 with (go_at_call 69; ((with_reducible refine (pair69 _ _ _).mono ?_); rintro e w2 ⟨rfl, hb2⟩; have HB2 := Lib.hid hb2; clear hb2))
   have C2 := (C1.up HB2.out).up ((Below.refl _ w2).alloc (Nat.le_refl _) (.cells #[.int .i64 (min xa xb), .int .i64 (max xa xb)] 42))
   have B2 := (B1.trans (HB2.out.mono B1.size)).trans (((Below.refl _ w2).alloc (Nat.le_refl _) (.cells #[.int .i64 (min xa xb), .int .i64 (max xa xb)] 42)).mono (B1.trans (HB2.out.mono B1.size)).size)
   have D2 : AtC (w2.alloc (.cells #[.int .i64 (min xa xb), .int .i64 (max xa xb)] 42)) w2.heap.size [.int .i64 (min xa xb), .int .i64 (max xa xb)] := AtC.new w2 _ _
   have hz2 : wo.heap.size < w2.heap.size := by have := HB2.out.size; omega
   have hz3 : w2.heap.size < (w2.alloc (.cells #[.int .i64 (min xa xb), .int .i64 (max xa xb)] 42)).heap.size := by simp
   clear c0 c1 C1 B1 Z1 HB2
   generalize World.alloc w2 _ = wy at C2 B2 D2 hz3 ⊢
   have c0 := C2 0 _ rfl
   have c1 := C2 1 _ rfl
   have c2 := C2 2 _ rfl
   have c3 := C2 3 _ rfl
   have c4 := C2 4 _ rfl
   have c5 := C2 5 _ rfl
   have MY := HM.out.up B2
   have BY := HB.out.trans (B2.mono HB.out.size)
   cases q
   ·have e : r = false := by
     rw [← HOK2.out]
     show (vldB T _ && _ && _) = _
     rw [HQ.out]; rfl
    obtain rfl : R = 2 := by rw [← HRR.out, e]; rfl
    go_wp2_with (go_at_call 70; ((with_reducible refine (HVX.out _).mono ?_); rintro e w3 ⟨rfl, hb3⟩; have HB3 := Lib.hid hb3; clear hb3))
    go_ret
    exact ⟨rfl, BY.trans (HB3.out.mono BY.size)⟩
   ·have HMY := Lib.hid MY
    have HD2 := Lib.hid D2
    have HKW := Lib.hid (keyR_w HX.out)
    have HBY := Lib.hid BY
    clear MY C2 D2 BY B2
    obtain ⟨d, hd⟩ : ∃ d, S.contains (keyR ⟨xa, xb, p0, p1, m0, m1⟩) = d := ⟨_, rfl⟩
    have HD := Lib.hid hd
    have hsz' := hsz
    have hst : Hid (okR T S (⟨xa, xb, p0, p1, m0, m1⟩ :: l.drop (k + 1)) = (!d && okR T (keyR ⟨xa, xb, p0, p1, m0, m1⟩ :: S) (l.drop (k + 1)))) := by
     show (vldB T _ && !S.contains _ && okR _ _ _) = _
     rw [HQ.out, HD.out, Bool.true_and]
    clear hd
    cases d
    ·go_wp2_with (go_at_call 70; ((with_reducible refine (HVX.out _).mono ?_); rintro e w3 ⟨rfl, hb3⟩; have hlk := (HMY.out.up hb3).lookP HKW.out HD.out; have d0 := upc (HD2.out 0 _ rfl) hb3; have d1 := upc (HD2.out 1 _ rfl) hb3; obtain ⟨w4, hrun, hm4, hg4⟩ := (HMY.out.up hb3).putP (by omega) HKW.out; have HM4 := Lib.hid hm4; have HB4 := Lib.hid (below_put (HBY.out.trans (hb3.mono HBY.out.size)) (Nat.le_refl _) hg4 (Nat.le_refl _)); have hs4 : w.heap.size < w4.heap.size := Nat.lt_of_lt_of_le HM4.out.lt (Nat.le_refl _); clear hm4 hg4 hb3))
     go_roundw
     case rel => exact ⟨k + 1, by omega, by go_num, hs4, ⟨_, _, HM4.out, by rw [← HOK2.out, hst.out]; rfl⟩, HB4⟩
     case measure => simp [intOf]; omega
    ·obtain rfl : R = 2 := by rw [← HRR.out, ← HOK2.out, hst.out]; rfl
     go_wp2_with (go_at_call 70; ((with_reducible refine (HVX.out _).mono ?_); rintro e w3 ⟨rfl, hb3⟩; have hlk := (HMY.out.up hb3).lookP HKW.out HD.out; have d0 := upc (HD2.out 0 _ rfl) hb3; have d1 := upc (HD2.out 1 _ rfl) hb3; have HB3 := Lib.hid hb3; clear hb3))
     go_ret
     exact ⟨rfl, HBY.out.trans (HB3.out.mono HBY.out.size)⟩
  ·obtain rfl : k = l.length := by omega
   obtain rfl : R = 0 := by rw [← HRR.out, ← HOK.out, List.drop_length]; rfl
   go_wp2_with fail
   go_ret
   exact ⟨rfl, HB.out⟩
end Go.Proofs.Ytlfbbofcnonhdaa
