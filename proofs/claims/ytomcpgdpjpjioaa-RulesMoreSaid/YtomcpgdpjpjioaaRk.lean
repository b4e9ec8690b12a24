/- Walk: RulesCodes. -/
import Derived.Test.YtomcpgdpjpjioaaAk
import Derived.Test.YtomcpgdpjpjioaaNo
import Derived.Test.YtomcpgdpjpjioaaPu
namespace Go.Proofs.Ytomcpgdpjpjioaa
open Go.RowKit Go.Proofs Go.Shelf
attribute [local go_sem] Oper.semAt_some

theorem fo23 : Try.prog.underlying 23 = some (.struct (Try.prog.fieldsOf 23)) := by kernel_rfl
theorem fn23 : (Try.prog.fieldsOf 23).toList.map (fun f => (f.name != "_", f.type, f.offset)) = [(true, 3, 0), (true, 3, 1), (true, 3, 2), (true, 3, 3), (true, 4, 4)] := by kernel_rfl
theorem pa23 (x y z u v : Value) (w : World) : (part 3 #[x, y, z, u, v] 0).run Try.prog w = .ok x w ∧ (part 3 #[x, y, z, u, v] 1).run Try.prog w = .ok y w ∧ (part 3 #[x, y, z, u, v] 2).run Try.prog w = .ok z w ∧ (part 3 #[x, y, z, u, v] 3).run Try.prog w = .ok u w ∧ (part 4 #[x, y, z, u, v] 4).run Try.prog w = .ok v w := ⟨by kernel_rfl, by kernel_rfl, by kernel_rfl, by kernel_rfl, by kernel_rfl⟩
theorem ein4 (d : Nat) (a b : Bool) (w : World) : (Op.equalIn (d + 1) 4 (.bool a) (.bool b)).run Try.prog w = .ok (a == b) w := run_equalIn_bool w d 4 a b (by kernel_rfl)
theorem eql23 (a b c d : Int) (e : Bool) (w : World) : (binOp .eql 23 (.agg #[.int .i64 a, .int .i64 b, .int .i64 c, .int .i64 d, .bool e]) (.agg #[.int .i64 a, .int .i64 b, .int .i64 c, .int .i64 d, .bool e])).run Try.prog w = .ok (.bool true) w := by
  rw [run_eql_struct]
  have h : (Op.equalIn 10000 23 (.agg #[.int .i64 a, .int .i64 b, .int .i64 c, .int .i64 d, .bool e]) (.agg #[.int .i64 a, .int .i64 b, .int .i64 c, .int .i64 d, .bool e])).run Try.prog w = .ok true w := by
    rw [run_equalIn_struct w 9999 23 _ _ fo23 (by kernel_rfl), eqF_of, fn23]
    simp [eqF, Sem.run_bind, (pa23 _ _ _ _ _ _).1, (pa23 _ _ _ _ _ _).2.1, (pa23 _ _ _ _ _ _).2.2.1, (pa23 _ _ _ _ _ _).2.2.2.1, (pa23 _ _ _ _ _ _).2.2.2.2, ein3, ein4, Result.andThen_ok, Sem.run_pure]
  rw [h]
  rfl
theorem nmV_form (l : List UInt8) : ∃ a b c d e E, nmV l = .tuple #[.agg #[.int .i64 a, .int .i64 b, .int .i64 c, .int .i64 d, .bool e], .int .i64 E] := ⟨_, _, _, _, _, _, rfl⟩
theorem prK_len (c : Cd) (n team : Int) (l : List St) : (prK c n team l).length ≤ l.length := by
  unfold prK; split
  · exact wK_len _ _ _
  · simp
theorem prF_len (c : Cd) (n team : Int) (l : List St) : (prF c n team l).length ≤ l.length := by
  unfold prF; split
  · exact wK_len _ _ _
  · simp

set_option maxRecDepth 100000 in
set_option maxHeartbeats 8000000 in
theorem Codes_any (s : ByteArray) (c : Cd) (n team : Int) (l : List St) (v : Value) (w : World) (hrow : RowS w v l) (hs : s.size ≤ maxLen) : Calls Try.prog 3 #[.string s, Cdv c, .int .i64 n, .int .i64 team, v] w (Back (.bool true) w) := by
  have HR := Lib.hid hrow
  obtain ⟨A, cap, rfl⟩ := hrow.form
  have hl48 : l.length ≤ 281474976710656 := by obtain ⟨A', cap', -, -, h, -⟩ := hrow; exact h.1
  have C5 : Hid (Cd5 (w.alloc (.cells #[.int .i64 c.f, .int .i64 c.t, .int .i64 c.s, .int .i64 c.e, .bool c.p] 23)) w.heap.size c) := Cd5.new w c
  have B : Hid (Below w.heap.size w (w.alloc (.cells #[.int .i64 c.f, .int .i64 c.t, .int .i64 c.s, .int .i64 c.e, .bool c.p] 23))) := (Below.refl _ _).alloc (Nat.le_refl _) _
  have H9 := Lib.hid (fun W => Named_any s hs W)
  have H10 := Lib.hid (fun W => refNamed s W)
  have H11 := Lib.hid (fun W (h : RowS W (.slice A l.length cap) l) => Protected_any c n team l _ W h)
  have H12 := Lib.hid (fun W (h : RowS W (.slice A l.length cap) l) => refProtected c n team l _ W h)
  have H13 := Lib.hid (fun W => CheckCode_any c W)
  have H14 := Lib.hid (fun W => refCheckCode c W)
  obtain ⟨a1, b1, c1, d1, e1, E, hnm⟩ := nmV_form s.data.toList
  rw [hnm] at H9 H10
  obtain ⟨cc, hcc⟩ : ∃ k, ccB c = k := ⟨_, rfl⟩
  obtain ⟨pE, hpE⟩ : ∃ k, prE c n team l = k := ⟨_, rfl⟩
  obtain ⟨pK, hpK⟩ : ∃ k, prK c n team l = k := ⟨_, rfl⟩
  obtain ⟨pF, hpF⟩ : ∃ k, prF c n team l = k := ⟨_, rfl⟩
  have LK := prK_len c n team l
  have LF := prF_len c n team l
  rw [hpK] at LK
  rw [hpF] at LF
  unfold PrC at H11 H12
  rw [hpE, hpK, hpF] at H11 H12
  rw [hcc] at H13 H14
  clear hrow hnm hcc hpE hpK hpF hs
  obtain ⟨f, t, s', e, p⟩ := c
  by_cases h20 : l.length ≤ 20
  · have h20' : ¬ (20 : Int) < (l.length : Int) := by omega
    by_cases h40 : s.size ≤ 40
    · have h40' : ¬ (40 : Int) < (s.size : Int) := by omega
      go_enter Try.func3, Try.ntmps3
      go_upto_region 3 with fail
      generalize hwx : World.alloc w _ = wx
      rw [hwx] at C5 B
      clear hwx
      go_upto_region 4 with (go_at_call 9; (with_reducible refine (H9.out _).mono ?_); rintro e1 w1 ⟨rfl, hb1⟩; replace C5 := Lib.hid (C5.out.up hb1); replace B := Lib.hid (B.out.trans (hb1.mono B.out.size)); clear hb1)
      generalize hwy : World.alloc w1 _ = wy
      have CA : Hid (Cd5 wy w1.heap.size ⟨a1, b1, c1, d1, e1⟩) := by show Cd5 _ _ _; rw [← hwy]; exact Cd5.new w1 ⟨a1, b1, c1, d1, e1⟩
      have hby : Below w1.heap.size w1 wy := by rw [← hwy]; exact (Below.refl _ _).alloc (Nat.le_refl _) _
      replace B := Lib.hid (B.out.trans (hby.mono B.out.size))
      replace C5 := Lib.hid (C5.out.up hby)
      obtain ⟨pa, hpa⟩ : ∃ p, w1.heap.size = p := ⟨_, rfl⟩
      rw [hpa] at CA
      rw [hpa]
      clear hwy hby hpa H9
      go_upto_region 5 with (go_at_call 10; (with_reducible refine (H10.out _).mono ?_); rintro e2 w2 ⟨rfl, hb1⟩; replace C5 := Lib.hid (C5.out.up hb1); replace CA := Lib.hid (CA.out.up hb1); replace B := Lib.hid (B.out.trans (hb1.mono B.out.size)); clear hb1)
      generalize hwz : World.alloc w2 _ = wz
      have CB : Hid (Cd5 wz w2.heap.size ⟨a1, b1, c1, d1, e1⟩) := by show Cd5 _ _ _; rw [← hwz]; exact Cd5.new w2 ⟨a1, b1, c1, d1, e1⟩
      have hbz : Below w2.heap.size w2 wz := by rw [← hwz]; exact (Below.refl _ _).alloc (Nat.le_refl _) _
      replace B := Lib.hid (B.out.trans (hbz.mono B.out.size))
      replace C5 := Lib.hid (C5.out.up hbz)
      replace CA := Lib.hid (CA.out.up hbz)
      obtain ⟨pb, hpb⟩ : ∃ p, w2.heap.size = p := ⟨_, rfl⟩
      rw [hpb] at CB
      rw [hpb]
      clear hwz hbz hpb H10
      obtain ⟨k0, k1, k2, k3, k4⟩ := C5.out
      simp only at k0 k1 k2 k3 k4
      go_upto_region 6 with (go_at_call 11; (with_reducible refine (H11.out _ (HR.out.up B.out)).mono ?_); rintro e2 w3 ⟨⟨A1, n1, c1', A2, n2, c2', rfl, ho1, ho2⟩, hb1⟩; have O1 := Lib.hid ho1; have O2 := Lib.hid ho2; replace C5 := Lib.hid (C5.out.up hb1); replace CA := Lib.hid (CA.out.up hb1); replace CB := Lib.hid (CB.out.up hb1); replace B := Lib.hid (B.out.trans (hb1.mono B.out.size)); clear hb1 ho1 ho2 k0 k1 k2 k3 k4 H11)
      obtain ⟨k0, k1, k2, k3, k4⟩ := C5.out
      simp only at k0 k1 k2 k3 k4
      go_upto_region 7 with (go_at_call 12; (with_reducible refine (H12.out _ (HR.out.up B.out)).mono ?_); rintro e2 w4 ⟨⟨A3, n3, c3', A4, n4, c4', rfl, ho1, ho2⟩, hb1⟩; have O3 := Lib.hid ho1; have O4 := Lib.hid ho2; replace O1 := Lib.hid (O1.out.up hb1); replace O2 := Lib.hid (O2.out.up hb1); replace C5 := Lib.hid (C5.out.up hb1); replace CA := Lib.hid (CA.out.up hb1); replace CB := Lib.hid (CB.out.up hb1); replace B := Lib.hid (B.out.trans (hb1.mono B.out.size)); clear hb1 ho1 ho2 k0 k1 k2 k3 k4 H12)
      have HI1 : Hid (∀ X : BW w4, Calls Try.prog 15 #[.slice A1 n1 c1', .slice A3 n3 c3'] X.to (Back (.bool true) X.to)) := fun X => Ints_eq pK _ _ _ _ X.to (O1.out.up X.same) (O3.out.up X.same) (by omega)
      have HI2 : Hid (∀ X : BW w4, Calls Try.prog 15 #[.slice A2 n2 c2', .slice A4 n4 c4'] X.to (Back (.bool true) X.to)) := fun X => Ints_eq pF _ _ _ _ X.to (O2.out.up X.same) (O4.out.up X.same) (by omega)
      have HAW := Lib.hid (fun W => awake_any W)
      obtain ⟨k0, k1, k2, k3, k4⟩ := C5.out
      obtain ⟨p0, p1, p2, p3, p4⟩ := CA.out
      obtain ⟨q0, q1, q2, q3, q4⟩ := CB.out
      simp only at k0 k1 k2 k3 k4 p0 p1 p2 p3 p4 q0 q1 q2 q3 q4
      have K0 := fun X : BW w4 => upc k0 X.same
      have K1 := fun X : BW w4 => upc k1 X.same
      have K2 := fun X : BW w4 => upc k2 X.same
      have K3 := fun X : BW w4 => upc k3 X.same
      have K4 := fun X : BW w4 => upc k4 X.same
      have P0 := fun X : BW w4 => upc p0 X.same
      have P1 := fun X : BW w4 => upc p1 X.same
      have P2 := fun X : BW w4 => upc p2 X.same
      have P3 := fun X : BW w4 => upc p3 X.same
      have P4 := fun X : BW w4 => upc p4 X.same
      have Q0 := fun X : BW w4 => upc q0 X.same
      have Q1 := fun X : BW w4 => upc q1 X.same
      have Q2 := fun X : BW w4 => upc q2 X.same
      have Q3 := fun X : BW w4 => upc q3 X.same
      have Q4 := fun X : BW w4 => upc q4 X.same
      have heq := eql23 a1 b1 c1 d1 e1
      clear k0 k1 k2 k3 k4 p0 p1 p2 p3 p4 q0 q1 q2 q3 q4
      refine wp_region_quietB (by kernel_rfl) (by kernel_rfl) ?_
      repeat (go_big_quiet_step ((first | (go_at_call 13; exact quietB (H13.out _)) | (go_at_call 14; exact quietB (H14.out _)) | (go_at_call 15; with_reducible exact quietB (HI1.out _)) | (go_at_call 15; with_reducible exact quietB (HI2.out _)) | (go_at_call 8; exact quietB (HAW.out _)))))
      refine wpQuiet_nil ?_
      rintro _ ⟨⟨wu, hbu⟩, rfl⟩
      replace B := Lib.hid (B.out.trans (hbu.mono B.out.size))
      clear K0 K1 K2 K3 K4 P0 P1 P2 P3 P4 Q0 Q1 Q2 Q3 Q4 heq hbu
      go_wp2_with fail
      go_ret
      exact ⟨rfl, B.out⟩
    · have h40' : (40 : Int) < (s.size : Int) := by omega
      go_enter Try.func3, Try.ntmps3
      go_wp2_with (go_at_call 8; refine (awake_any _).mono ?_; rintro e1 w1 ⟨rfl, hb1⟩; replace B := Lib.hid (B.out.trans (hb1.mono B.out.size)); clear hb1)
      go_ret
      exact ⟨rfl, B.out⟩
  · have h20' : (20 : Int) < (l.length : Int) := by omega
    go_enter Try.func3, Try.ntmps3
    go_wp2_with (go_at_call 8; refine (awake_any _).mono ?_; rintro e1 w1 ⟨rfl, hb1⟩; replace B := Lib.hid (B.out.trans (hb1.mono B.out.size)); clear hb1)
    go_ret
    exact ⟨rfl, B.out⟩
set_option maxHeartbeats 1000000 in
theorem Codes_big (s : ByteArray) (c : Cd) (n team : Int) (A : Option Addr) (len cap : Nat) (w : World) (h20 : 20 < len) : Calls Try.prog 3 #[.string s, Cdv c, .int .i64 n, .int .i64 team, .slice A len cap] w (Back (.bool true) w) := by
  have B : Hid (Below w.heap.size w (w.alloc (.cells #[.int .i64 c.f, .int .i64 c.t, .int .i64 c.s, .int .i64 c.e, .bool c.p] 23))) := (Below.refl _ _).alloc (Nat.le_refl _) _
  obtain ⟨f, t, s', e, p⟩ := c
  have h20' : (20 : Int) < (len : Int) := by omega
  go_enter Try.func3, Try.ntmps3
  go_wp2_with (go_at_call 8; refine (awake_any _).mono ?_; rintro e1 w1 ⟨rfl, hb1⟩; replace B := Lib.hid (B.out.trans (hb1.mono B.out.size)); clear hb1)
  go_ret
  exact ⟨rfl, B.out⟩
theorem Codes_law (s : ByteArray) (c : Cd) (n team : Int) (A : Option Addr) (len cap : Nat) (w : World) (hs : s.size ≤ maxLen) (hl : len ≤ 281474976710656 → ∃ l : List St, l.length = len ∧ RowS w (.slice A len cap) l) :
    Calls Try.prog 3 #[.string s, Cdv c, .int .i64 n, .int .i64 team, .slice A len cap] w (Back (.bool true) w) := by
  by_cases h : len ≤ 20
  · obtain ⟨l, -, hr⟩ := hl (by omega)
    exact Codes_any s c n team l _ w hr hs
  · exact Codes_big s c n team A len cap w (by omega)
end Go.Proofs.Ytomcpgdpjpjioaa
