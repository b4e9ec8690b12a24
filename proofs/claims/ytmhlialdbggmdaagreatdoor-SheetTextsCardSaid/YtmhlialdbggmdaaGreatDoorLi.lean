/- Contract: the document's line. -/
import Derived.Test.YtmhlialdbggmdaaGreatDoorRi
namespace Go.Proofs.YtmhlialdbggmdaaGreatDoor
open Go.RowKit Go.Proofs Go.Shelf

theorem idx_cases (s : ByteArray) (c : UInt8) : (Lib.indexByte s.data.toList c = -1 ∧ c ∉ s.data.toList) ∨
    ∃ i : Nat, i < s.size ∧ Lib.indexByte s.data.toList c = i ∧ s.data.toList = (s.extract 0 i).data.toList ++ c :: (s.extract (i + 1) s.size).data.toList ∧ c ∉ (s.extract 0 i).data.toList := by
  by_cases h : Lib.indexByte s.data.toList c = -1
  · refine .inl ⟨h, fun hm => ?_⟩
    obtain ⟨j, hj, he⟩ := List.getElem_of_mem hm
    exact Lib.indexByte_none h j (by rw [List.getElem?_eq_getElem hj, he])
  · have hge := Lib.indexByte_ge s.data.toList c
    obtain ⟨i, hi⟩ := Int.eq_ofNat_of_zero_le (show 0 ≤ Lib.indexByte s.data.toList c by omega)
    obtain ⟨h1, h2⟩ := Lib.indexByte_some hi
    obtain ⟨hl, he⟩ := List.getElem?_eq_some_iff.1 h1
    have e0 : (s.extract 0 i).data.toList = s.data.toList.take i := Lib.extract_from_zero s i
    have e1 : (s.extract (i + 1) s.size).data.toList = s.data.toList.drop (i + 1) := by
      rw [Lib.extract_data, List.take_of_length_le (by rw [List.length_drop, ← Lib.size_eq]; omega)]
    refine .inr ⟨i, by rw [Lib.size_eq]; exact hl, hi, ?_, fun hm => ?_⟩
    · rw [e0, e1]
      conv => lhs; rw [← List.take_append_drop i s.data.toList, List.drop_eq_getElem_cons hl, he]
    · rw [e0] at hm
      obtain ⟨j, hj, hje⟩ := List.getElem_of_mem hm
      rw [List.length_take] at hj
      rw [List.getElem_take] at hje
      exact h2 j (by omega) (by rw [List.getElem?_eq_getElem (by omega), hje])
theorem cut_no (s : ByteArray) (c : UInt8) (hs : s.size ≤ 100000) (h : Lib.indexByte s.data.toList c = -1) (w : World) : Calls Tryz.prog 52 #[.string s, .int .u8 c.toNat] w (Back (.tuple #[.string s, .string ⟨#[]⟩, .bool false]) w) :=
  (cut_any s c hs w).mono fun e w' h' => by
    obtain ⟨h', hb⟩ := h'
    rcases h' with ⟨i, -, e1, -⟩ | ⟨-, e1⟩
    · rw [h] at e1; omega
    · exact ⟨e1, hb⟩
theorem cut_yes (s : ByteArray) (c : UInt8) (hs : s.size ≤ 100000) (i : Nat) (h : Lib.indexByte s.data.toList c = i) (w : World) : Calls Tryz.prog 52 #[.string s, .int .u8 c.toNat] w (Back (.tuple #[.string (s.extract 0 i), .string (s.extract (i + 1) s.size), .bool true]) w) :=
  (cut_any s c hs w).mono fun e w' h' => by
    obtain ⟨h', hb⟩ := h'
    rcases h' with ⟨j, -, e1, e2⟩ | ⟨e1, -⟩
    · rw [h] at e1
      obtain rfl : i = j := by omega
      exact ⟨e2, hb⟩
    · rw [h] at e1; omega
theorem lineOk_form {l : List UInt8} {t : St} (h : lineOk l t) : ∃ a b d, l = a ++ 32 :: (b ++ 32 :: d) ∧ (32 : UInt8) ∉ a ∧ (32 : UInt8) ∉ b := by
  obtain ⟨a, b, d, h1, h2⟩ := line_parts h
  exact ⟨a, b, d, h1, h2 a (by simp), h2 b (by simp)⟩

set_option maxRecDepth 100000 in
set_option maxHeartbeats 4000000 in
theorem refLine (s : ByteArray) (hs : s.size ≤ 100000) (w : World) : Calls Tryz.prog 53 #[.string s] w (StA s w) := by
  rcases idx_cases s 32 with ⟨hq, hm⟩ | ⟨i, hi, hq, hl, ha⟩
  · have hno : Hid (∀ t, ¬ lineOk s.data.toList t) := fun t h => by
      obtain ⟨a, b, d, h1, -⟩ := lineOk_form h
      exact hm (by rw [h1]; simp)
    have H1 : Hid (∀ w, Calls Tryz.prog 52 #[.string s, .int .u8 32] w (Back (.tuple #[.string s, .string ⟨#[]⟩, .bool false]) w)) := fun w => cut_no s 32 hs hq w
    have H2 : Hid (∀ w, Calls Tryz.prog 52 #[.string ⟨#[]⟩, .int .u8 32] w (Back (.tuple #[.string ⟨#[]⟩, .string ⟨#[]⟩, .bool false]) w)) := fun w => cut_no ⟨#[]⟩ 32 (by decide) rfl w
    clear hq hm
    have KK : Hid (At4 (w.alloc (Sto ⟨0, 0, 0, 0⟩)) w.heap.size 0 ⟨0, 0, 0, 0⟩) := At4.new w _
    have FF : Hid (Fz (w.alloc (Sto ⟨0, 0, 0, 0⟩)) w.heap.size) := Fz.new w _
    have XX : Hid (Below w.heap.size w (w.alloc (Sto ⟨0, 0, 0, 0⟩))) := (Below.refl _ _).alloc (Nat.le_refl _) _
    go_enter Tryz.func53, Tryz.ntmps53
    go_wp2_with (first
      | (go_at_call 52; (with_reducible refine (H1.out _).mono ?_); rintro e w1 ⟨rfl, HBW⟩; have KQ := KK; replace KK := Lib.hid (KK.out.up HBW); replace FF := Lib.hid (FF.out.up KQ.out HBW); replace XX := Lib.hid (XX.out.trans (HBW.mono XX.out.size)); clear HBW KQ; clear H1)
      | (go_at_call 52; (with_reducible refine (H2.out _).mono ?_); rintro e w1 ⟨rfl, HBW⟩; have KQ := KK; replace KK := Lib.hid (KK.out.up HBW); replace FF := Lib.hid (FF.out.up KQ.out HBW); replace XX := Lib.hid (XX.out.trans (HBW.mono XX.out.size)); clear HBW KQ; obtain ⟨z0, z1, z2, z3⟩ := KK.out; obtain ⟨g0, g1, g2, g3⟩ := FF.out; clear H2))
    refine bodyPost_ret (results_ct (s := ⟨0, 0, 0, 0⟩) rfl _ _ rfl (set4 z0 z1 z2 z3 0 0 0 0)) rfl ?_
    exact ⟨⟨⟨0, 0, 0, 0⟩, false, rfl, nofun, fun _ => hno.out⟩, (((XX.out.setCell (p := ⟨w.heap.size, 0, none⟩) (by simp) _).setCell (p := ⟨w.heap.size, 1, none⟩) (by simp) _).setCell (p := ⟨w.heap.size, 2, none⟩) (by simp) _).setCell (p := ⟨w.heap.size, 3, none⟩) (by simp) _⟩
  · have H1 : Hid (∀ w, Calls Tryz.prog 52 #[.string s, .int .u8 32] w (Back (.tuple #[.string (s.extract 0 i), .string (s.extract (i + 1) s.size), .bool true]) w)) := fun w => cut_yes s 32 hs i hq w
    obtain ⟨A, hA⟩ : ∃ A, s.extract 0 i = A := ⟨_, rfl⟩
    obtain ⟨R, hR⟩ : ∃ R, s.extract (i + 1) s.size = R := ⟨_, rfl⟩
    rw [hA] at H1 hl ha
    rw [hR] at H1 hl
    have hzs := congrArg List.length hl
    simp only [List.length_append, List.length_cons, ← Lib.size_eq] at hzs
    clear hA hR hq
    rcases idx_cases R 32 with ⟨hq, hm⟩ | ⟨k, hk, hq, hl2, hb⟩
    · have hno : Hid (∀ t, ¬ lineOk s.data.toList t) := fun t h => by
        obtain ⟨a, b, d, h1, h2, h3⟩ := lineOk_form h
        rw [hl] at h1
        obtain ⟨-, e⟩ := cut_uniq h1 ha h2
        exact hm (by rw [e]; simp)
      have H2 : Hid (∀ w, Calls Tryz.prog 52 #[.string R, .int .u8 32] w (Back (.tuple #[.string R, .string ⟨#[]⟩, .bool false]) w)) := fun w => cut_no R 32 (by omega) hq w
      clear hq hm hl ha hi hzs
      have KK : Hid (At4 (w.alloc (Sto ⟨0, 0, 0, 0⟩)) w.heap.size 0 ⟨0, 0, 0, 0⟩) := At4.new w _
      have FF : Hid (Fz (w.alloc (Sto ⟨0, 0, 0, 0⟩)) w.heap.size) := Fz.new w _
      have XX : Hid (Below w.heap.size w (w.alloc (Sto ⟨0, 0, 0, 0⟩))) := (Below.refl _ _).alloc (Nat.le_refl _) _
      go_enter Tryz.func53, Tryz.ntmps53
      go_wp2_with (first
        | (go_at_call 52; (with_reducible refine (H1.out _).mono ?_); rintro e w1 ⟨rfl, HBW⟩; have KQ := KK; replace KK := Lib.hid (KK.out.up HBW); replace FF := Lib.hid (FF.out.up KQ.out HBW); replace XX := Lib.hid (XX.out.trans (HBW.mono XX.out.size)); clear HBW KQ; clear H1)
        | (go_at_call 52; (with_reducible refine (H2.out _).mono ?_); rintro e w1 ⟨rfl, HBW⟩; have KQ := KK; replace KK := Lib.hid (KK.out.up HBW); replace FF := Lib.hid (FF.out.up KQ.out HBW); replace XX := Lib.hid (XX.out.trans (HBW.mono XX.out.size)); clear HBW KQ; obtain ⟨z0, z1, z2, z3⟩ := KK.out; obtain ⟨g0, g1, g2, g3⟩ := FF.out; clear H2))
      refine bodyPost_ret (results_ct (s := ⟨0, 0, 0, 0⟩) rfl _ _ rfl (set4 z0 z1 z2 z3 0 0 0 0)) rfl ?_
      exact ⟨⟨⟨0, 0, 0, 0⟩, false, rfl, nofun, fun _ => hno.out⟩, (((XX.out.setCell (p := ⟨w.heap.size, 0, none⟩) (by simp) _).setCell (p := ⟨w.heap.size, 1, none⟩) (by simp) _).setCell (p := ⟨w.heap.size, 2, none⟩) (by simp) _).setCell (p := ⟨w.heap.size, 3, none⟩) (by simp) _⟩
    · have H2 : Hid (∀ w, Calls Tryz.prog 52 #[.string R, .int .u8 32] w (Back (.tuple #[.string (R.extract 0 k), .string (R.extract (k + 1) R.size), .bool true]) w)) := fun w => cut_yes R 32 (by omega) k hq w
      obtain ⟨X, hX⟩ : ∃ X, R.extract 0 k = X := ⟨_, rfl⟩
      obtain ⟨Y, hY⟩ : ∃ Y, R.extract (k + 1) R.size = Y := ⟨_, rfl⟩
      rw [hX] at H2 hl2 hb
      rw [hY] at H2 hl2
      have hzr := congrArg List.length hl2
      simp only [List.length_append, List.length_cons, ← Lib.size_eq] at hzr
      rw [hl2] at hl
      have HI := Lib.hid (fun t => line_iff hl ha hb t)
      have I1 : Hid (∀ w, Calls Tryz.prog 80 #[.string X] w (IntC X w)) := fun w => refInteger X (by omega) w
      have I2 : Hid (∀ w, Calls Tryz.prog 80 #[.string Y] w (IntC Y w)) := fun w => refInteger Y (by omega) w
      clear hX hY hq hl hl2 ha hb hi hk hzs hzr
      by_cases h2 : A.size = 2
      · have h2' : (A.size : Int) = 2 := by omega
        obtain ⟨c0, hc0⟩ : ∃ c, A[0]'(by omega) = c := ⟨_, rfl⟩
        obtain ⟨c1, hc1⟩ : ∃ c, A[1]'(by omega) = c := ⟨_, rfl⟩
        have HL : Hid (A.data.toList = [c0, c1]) := by
          have e0 := byte_at A 0 (by omega)
          have e1 := byte_at A 1 (by omega)
          rw [hc0] at e0; rw [hc1] at e1
          have h2l : A.data.toList.length = 2 := by rw [← Lib.size_eq]; exact h2
          show _ = _
          match hA : A.data.toList, h2l with
          | [x, y], _ => rw [hA] at e0 e1; simp at e0 e1; rw [e0, e1]
        have hct := c1.toNat_lt
        by_cases hlt : c0 = 114 ∨ c0 = 121
        · by_cases hdg : 49 ≤ c1.toNat ∧ c1.toNat ≤ 56
          · obtain ⟨d, hd⟩ : ∃ d, c1.toNat = 49 + d := ⟨c1.toNat - 49, by omega⟩
            have hd7 : d ≤ 7 := by omega
            have HD := Lib.hid hd
            have k1 : ¬ (c1.toNat : Int) < 49 := by omega
            have k2 : ¬ (56 : Int) < (c1.toNat : Int) := by omega
            have k3 : (c1.toNat : Int) = 49 + (d : Int) := by omega
            clear hd hdg
            rcases hlt with rfl | rfl
            all_goals
              have KK : Hid (At4 (w.alloc (Sto ⟨0, 0, 0, 0⟩)) w.heap.size 0 ⟨0, 0, 0, 0⟩) := At4.new w _
              have FF : Hid (Fz (w.alloc (Sto ⟨0, 0, 0, 0⟩)) w.heap.size) := Fz.new w _
              have XX : Hid (Below w.heap.size w (w.alloc (Sto ⟨0, 0, 0, 0⟩))) := (Below.refl _ _).alloc (Nat.le_refl _) _
              go_enter Tryz.func53, Tryz.ntmps53
              go_upto_region 7 with (first
                | (go_at_call 52; (with_reducible refine (H1.out _).mono ?_); rintro e w1 ⟨rfl, HBW⟩; have KQ := KK; replace KK := Lib.hid (KK.out.up HBW); replace FF := Lib.hid (FF.out.up KQ.out HBW); replace XX := Lib.hid (XX.out.trans (HBW.mono XX.out.size)); clear HBW KQ; clear H1)
                | (go_at_call 52; (with_reducible refine (H2.out _).mono ?_); rintro e w1 ⟨rfl, HBW⟩; have KQ := KK; replace KK := Lib.hid (KK.out.up HBW); replace FF := Lib.hid (FF.out.up KQ.out HBW); replace XX := Lib.hid (XX.out.trans (HBW.mono XX.out.size)); clear HBW KQ; clear H2)
                | (go_at_call 80; (with_reducible refine (I1.out _).mono ?_); rintro e w3 ⟨⟨x, one, rfl, hx1, hx0⟩, HBW⟩; have X1 := Lib.hid hx1; have X0 := Lib.hid hx0; clear hx1 hx0 I1; have KQ := KK; replace KK := Lib.hid (KK.out.up HBW); replace FF := Lib.hid (FF.out.up KQ.out HBW); replace XX := Lib.hid (XX.out.trans (HBW.mono XX.out.size)); clear HBW KQ)
                | (go_at_call 80; (with_reducible refine (I2.out _).mono ?_); rintro e w4 ⟨⟨y, two, rfl, hx1, hx0⟩, HBW⟩; have Y1 := Lib.hid hx1; have Y0 := Lib.hid hx0; clear hx1 hx0 I2; have KQ := KK; replace KK := Lib.hid (KK.out.up HBW); replace FF := Lib.hid (FF.out.up KQ.out HBW); replace XX := Lib.hid (XX.out.trans (HBW.mono XX.out.size)); clear HBW KQ))
              have hzz := XX.out.size
              cases one
              · have hno : Hid (∀ t, ¬ lineOk s.data.toList t) := fun t h => by
                  obtain ⟨-, hs⟩ := (HI.out t).1 h
                  exact X0.out rfl _ hs.2.2.1
                clear HI X1 X0 Y1 Y0
                obtain ⟨z0, z1, z2, z3⟩ := KK.out
                obtain ⟨g0, g1, g2, g3⟩ := FF.out
                go_wp2_with fail
                refine bodyPost_ret (results_ct (s := ⟨0, 0, 0, 0⟩) rfl _ _ rfl (set4 z0 z1 z2 z3 0 0 0 0)) rfl ?_
                exact ⟨⟨⟨0, 0, 0, 0⟩, false, rfl, nofun, fun _ => hno.out⟩, (((XX.out.setCell (p := ⟨w.heap.size, 0, none⟩) (by simp) _).setCell (p := ⟨w.heap.size, 1, none⟩) (by simp) _).setCell (p := ⟨w.heap.size, 2, none⟩) (by simp) _).setCell (p := ⟨w.heap.size, 3, none⟩) (by simp) _⟩
              · cases two
                · have hno : Hid (∀ t, ¬ lineOk s.data.toList t) := fun t h => by
                    obtain ⟨-, hs⟩ := (HI.out t).1 h
                    exact Y0.out rfl _ hs.2.2.2.1
                  clear HI X1 X0 Y1 Y0
                  obtain ⟨z0, z1, z2, z3⟩ := KK.out
                  obtain ⟨g0, g1, g2, g3⟩ := FF.out
                  go_wp2_with fail
                  refine bodyPost_ret (results_ct (s := ⟨0, 0, 0, 0⟩) rfl _ _ rfl (set4 z0 z1 z2 z3 0 0 0 0)) rfl ?_
                  exact ⟨⟨⟨0, 0, 0, 0⟩, false, rfl, nofun, fun _ => hno.out⟩, (((XX.out.setCell (p := ⟨w.heap.size, 0, none⟩) (by simp) _).setCell (p := ⟨w.heap.size, 1, none⟩) (by simp) _).setCell (p := ⟨w.heap.size, 2, none⟩) (by simp) _).setCell (p := ⟨w.heap.size, 3, none⟩) (by simp) _⟩
                · have X2 := Lib.hid (X1.out rfl)
                  have Y2 := Lib.hid (Y1.out rfl)
                  clear X1 X0 Y1 Y0
                  go_upto_region 10 with fail
                  generalize hwy : World.alloc w4 _ = wy
                  have KZ : Hid (At4 wy w.heap.size 0 ⟨0, 0, 0, 0⟩) := by show At4 _ _ _ _; rw [← hwy]; exact KK.out.alloc _
                  have FZ : Hid (Fz wy w.heap.size) := by show Fz _ _; rw [← hwy]; exact FF.out.up KK.out ((Below.refl _ _).alloc (Nat.le_refl _) _)
                  have KN : Hid (At4 wy w4.heap.size 0 ⟨0, 49 + (d : Int) - 49, x, y⟩) := by show At4 _ _ _ _; rw [← hwy]; exact At4.new w4 ⟨0, 49 + (d : Int) - 49, x, y⟩
                  have FN : Hid (Fz wy w4.heap.size) := by show Fz _ _; rw [← hwy]; exact Fz.new w4 ⟨0, 49 + (d : Int) - 49, x, y⟩
                  have XZ : Hid (Below w.heap.size w wy) := by show Below _ _ _; rw [← hwy]; exact XX.out.alloc hzz _
                  have KZZ := KK
                  clear hwy XX KK FF
                  have hne : w4.heap.size ≠ w.heap.size := by have := lt_cell KZZ.out.1; omega
                  have HNE := Lib.hid hne
                  clear hne
                  obtain ⟨n0, n1, n2, n3⟩ := KN.out
                  obtain ⟨m0, m1, m2, m3⟩ := FN.out
                  go_upto_region 12 with fail
                  first
                    | (have XF := XZ
                       obtain ⟨z0, z1, z2, z3⟩ := KZ.out
                       obtain ⟨g0, g1, g2, g3⟩ := FZ.out
                       have HT0 : (0 : Int) ≤ 0 := by decide
                       go_wp2_with fail
                       refine bodyPost_ret (results_ct (s := ⟨0, 49 + (d : Int) - 49, x, y⟩) rfl _ _ rfl (set4 z0 z1 z2 z3 0 (49 + (d : Int) - 49) x y)) rfl ?_
                       refine ⟨⟨⟨0, 49 + (d : Int) - 49, x, y⟩, true, rfl, fun _ => (HI.out _).2 ⟨by rw [HL.out]; rfl, ?_⟩, nofun⟩, (((XF.out.setCell (p := ⟨w.heap.size, 0, none⟩) (by simp) _).setCell (p := ⟨w.heap.size, 1, none⟩) (by simp) _).setCell (p := ⟨w.heap.size, 2, none⟩) (by simp) _).setCell (p := ⟨w.heap.size, 3, none⟩) (by simp) _⟩
                       rw [HL.out]
                       have hd' := HD.out
                       exact ⟨rfl, by show (49 + (d : Int) - 49) = (c1.toNat : Int) - 49; omega, X2.out, Y2.out, HT0, by show (0 : Int) ≤ 49 + (d : Int) - 49; omega, by show 49 + (d : Int) - 49 ≤ 7; omega⟩)
                    | (generalize hwz : World.setCell wy _ _ = wz
                       have KF : Hid (At4 wz w.heap.size 0 ⟨0, 0, 0, 0⟩) := by
                         show At4 _ _ _ _; rw [← hwz]
                         obtain ⟨a0, a1, a2, a3⟩ := KZ.out
                         exact ⟨(World.cell?_setCell_other _ _ _ _ (fun e => HNE.out (congrArg Addr.block e))).trans a0, (World.cell?_setCell_other _ _ _ _ (fun e => HNE.out (congrArg Addr.block e))).trans a1, (World.cell?_setCell_other _ _ _ _ (fun e => HNE.out (congrArg Addr.block e))).trans a2, (World.cell?_setCell_other _ _ _ _ (fun e => HNE.out (congrArg Addr.block e))).trans a3⟩
                       have FFZ : Hid (Fz wz w.heap.size) := by
                         show Fz _ _; rw [← hwz]
                         obtain ⟨a0, a1, a2, a3⟩ := FZ.out
                         exact ⟨(World.frozen?_setCell _ _ _ _).trans a0, (World.frozen?_setCell _ _ _ _).trans a1, (World.frozen?_setCell _ _ _ _).trans a2, (World.frozen?_setCell _ _ _ _).trans a3⟩
                       have KM : Hid (At4 wz w4.heap.size 0 ⟨1, 49 + (d : Int) - 49, x, y⟩) := by
                         show At4 _ _ _ _; rw [← hwz]
                         obtain ⟨a0, a1, a2, a3⟩ := KN.out
                         exact ⟨World.cell?_setCell_same _ _ _ a0, (World.cell?_setCell_other _ _ _ _ (by simp)).trans a1, (World.cell?_setCell_other _ _ _ _ (by simp)).trans a2, (World.cell?_setCell_other _ _ _ _ (by simp)).trans a3⟩
                       have XF : Hid (Below w.heap.size w wz) := by show Below _ _ _; rw [← hwz]; exact XZ.out.setCell (p := ⟨w4.heap.size, 0, none⟩) hzz _
                       clear hwz n0 n1 n2 n3 m0 m1 m2 m3
                       obtain ⟨z0, z1, z2, z3⟩ := KF.out
                       obtain ⟨g0, g1, g2, g3⟩ := FFZ.out
                       obtain ⟨n0, n1, n2, n3⟩ := KM.out
                       have HT0 : (0 : Int) ≤ 1 := by decide
                       go_wp2_with fail
                       refine bodyPost_ret (results_ct (s := ⟨1, 49 + (d : Int) - 49, x, y⟩) rfl _ _ rfl (set4 z0 z1 z2 z3 1 (49 + (d : Int) - 49) x y)) rfl ?_
                       refine ⟨⟨⟨1, 49 + (d : Int) - 49, x, y⟩, true, rfl, fun _ => (HI.out _).2 ⟨by rw [HL.out]; rfl, ?_⟩, nofun⟩, (((XF.out.setCell (p := ⟨w.heap.size, 0, none⟩) (by simp) _).setCell (p := ⟨w.heap.size, 1, none⟩) (by simp) _).setCell (p := ⟨w.heap.size, 2, none⟩) (by simp) _).setCell (p := ⟨w.heap.size, 3, none⟩) (by simp) _⟩
                       rw [HL.out]
                       have hd' := HD.out
                       exact ⟨rfl, by show (49 + (d : Int) - 49) = (c1.toNat : Int) - 49; omega, X2.out, Y2.out, HT0, by show (0 : Int) ≤ 49 + (d : Int) - 49; omega, by show 49 + (d : Int) - 49 ≤ 7; omega⟩)
          · have hno : Hid (∀ t, ¬ lineOk s.data.toList t) := fun t h => by
              obtain ⟨-, hs⟩ := (HI.out t).1 h
              rw [HL.out] at hs
              obtain ⟨-, e, -, -, -, f1, f2⟩ := hs
              have e' : t.n = (c1.toNat : Int) - 49 := e
              omega
            have hcc : ((c1.toNat : Int) < 49) ∨ (¬ (c1.toNat : Int) < 49 ∧ (56 : Int) < (c1.toNat : Int)) := by omega
            clear hdg HI I1 I2
            rcases hlt with rfl | rfl <;> rcases hcc with hcc | ⟨hcc, hcd⟩
            all_goals
              have KK : Hid (At4 (w.alloc (Sto ⟨0, 0, 0, 0⟩)) w.heap.size 0 ⟨0, 0, 0, 0⟩) := At4.new w _
              have FF : Hid (Fz (w.alloc (Sto ⟨0, 0, 0, 0⟩)) w.heap.size) := Fz.new w _
              have XX : Hid (Below w.heap.size w (w.alloc (Sto ⟨0, 0, 0, 0⟩))) := (Below.refl _ _).alloc (Nat.le_refl _) _
              go_enter Tryz.func53, Tryz.ntmps53
              go_wp2_with (first
                | (go_at_call 52; (with_reducible refine (H1.out _).mono ?_); rintro e w1 ⟨rfl, HBW⟩; have KQ := KK; replace KK := Lib.hid (KK.out.up HBW); replace FF := Lib.hid (FF.out.up KQ.out HBW); replace XX := Lib.hid (XX.out.trans (HBW.mono XX.out.size)); clear HBW KQ; clear H1)
                | (go_at_call 52; (with_reducible refine (H2.out _).mono ?_); rintro e w1 ⟨rfl, HBW⟩; have KQ := KK; replace KK := Lib.hid (KK.out.up HBW); replace FF := Lib.hid (FF.out.up KQ.out HBW); replace XX := Lib.hid (XX.out.trans (HBW.mono XX.out.size)); clear HBW KQ; obtain ⟨z0, z1, z2, z3⟩ := KK.out; obtain ⟨g0, g1, g2, g3⟩ := FF.out; clear H2))
              refine bodyPost_ret (results_ct (s := ⟨0, 0, 0, 0⟩) rfl _ _ rfl (set4 z0 z1 z2 z3 0 0 0 0)) rfl ?_
              exact ⟨⟨⟨0, 0, 0, 0⟩, false, rfl, nofun, fun _ => hno.out⟩, (((XX.out.setCell (p := ⟨w.heap.size, 0, none⟩) (by simp) _).setCell (p := ⟨w.heap.size, 1, none⟩) (by simp) _).setCell (p := ⟨w.heap.size, 2, none⟩) (by simp) _).setCell (p := ⟨w.heap.size, 3, none⟩) (by simp) _⟩
        · have hno : Hid (∀ t, ¬ lineOk s.data.toList t) := fun t h => by
            obtain ⟨-, hs⟩ := (HI.out t).1 h
            rw [HL.out] at hs
            obtain ⟨e, -, -, -, f1, -, -⟩ := hs
            obtain ⟨f2, f3⟩ := letter_iff.1 ⟨e, f1⟩
            have f3' : c0 = if t.t = 1 then 121 else 114 := f3
            split at f3'
            · exact hlt (.inr f3')
            · exact hlt (.inl f3')
          have k1 : ((c0.toNat : Int) != 114) = true := by
            rw [bne_iff_ne]; intro h; exact hlt (.inl (UInt8.toNat_inj.1 (by simp; omega)))
          have k2 : ((c0.toNat : Int) != 121) = true := by
            rw [bne_iff_ne]; intro h; exact hlt (.inr (UInt8.toNat_inj.1 (by simp; omega)))
          clear hlt HI I1 I2
          have KK : Hid (At4 (w.alloc (Sto ⟨0, 0, 0, 0⟩)) w.heap.size 0 ⟨0, 0, 0, 0⟩) := At4.new w _
          have FF : Hid (Fz (w.alloc (Sto ⟨0, 0, 0, 0⟩)) w.heap.size) := Fz.new w _
          have XX : Hid (Below w.heap.size w (w.alloc (Sto ⟨0, 0, 0, 0⟩))) := (Below.refl _ _).alloc (Nat.le_refl _) _
          go_enter Tryz.func53, Tryz.ntmps53
          go_wp2_with (first
            | (go_at_call 52; (with_reducible refine (H1.out _).mono ?_); rintro e w1 ⟨rfl, HBW⟩; have KQ := KK; replace KK := Lib.hid (KK.out.up HBW); replace FF := Lib.hid (FF.out.up KQ.out HBW); replace XX := Lib.hid (XX.out.trans (HBW.mono XX.out.size)); clear HBW KQ; clear H1)
            | (go_at_call 52; (with_reducible refine (H2.out _).mono ?_); rintro e w1 ⟨rfl, HBW⟩; have KQ := KK; replace KK := Lib.hid (KK.out.up HBW); replace FF := Lib.hid (FF.out.up KQ.out HBW); replace XX := Lib.hid (XX.out.trans (HBW.mono XX.out.size)); clear HBW KQ; obtain ⟨z0, z1, z2, z3⟩ := KK.out; obtain ⟨g0, g1, g2, g3⟩ := FF.out; clear H2))
          refine bodyPost_ret (results_ct (s := ⟨0, 0, 0, 0⟩) rfl _ _ rfl (set4 z0 z1 z2 z3 0 0 0 0)) rfl ?_
          exact ⟨⟨⟨0, 0, 0, 0⟩, false, rfl, nofun, fun _ => hno.out⟩, (((XX.out.setCell (p := ⟨w.heap.size, 0, none⟩) (by simp) _).setCell (p := ⟨w.heap.size, 1, none⟩) (by simp) _).setCell (p := ⟨w.heap.size, 2, none⟩) (by simp) _).setCell (p := ⟨w.heap.size, 3, none⟩) (by simp) _⟩
      · have hno : Hid (∀ t, ¬ lineOk s.data.toList t) := fun t h => h2 (by
          have := ((HI.out t).1 h).1
          rw [Lib.size_eq]; exact this)
        have h2' : ((A.size : Int) != 2) = true := by rw [bne_iff_ne]; omega
        clear HI I1 I2
        have KK : Hid (At4 (w.alloc (Sto ⟨0, 0, 0, 0⟩)) w.heap.size 0 ⟨0, 0, 0, 0⟩) := At4.new w _
        have FF : Hid (Fz (w.alloc (Sto ⟨0, 0, 0, 0⟩)) w.heap.size) := Fz.new w _
        have XX : Hid (Below w.heap.size w (w.alloc (Sto ⟨0, 0, 0, 0⟩))) := (Below.refl _ _).alloc (Nat.le_refl _) _
        go_enter Tryz.func53, Tryz.ntmps53
        go_wp2_with (first
          | (go_at_call 52; (with_reducible refine (H1.out _).mono ?_); rintro e w1 ⟨rfl, HBW⟩; have KQ := KK; replace KK := Lib.hid (KK.out.up HBW); replace FF := Lib.hid (FF.out.up KQ.out HBW); replace XX := Lib.hid (XX.out.trans (HBW.mono XX.out.size)); clear HBW KQ; clear H1)
          | (go_at_call 52; (with_reducible refine (H2.out _).mono ?_); rintro e w1 ⟨rfl, HBW⟩; have KQ := KK; replace KK := Lib.hid (KK.out.up HBW); replace FF := Lib.hid (FF.out.up KQ.out HBW); replace XX := Lib.hid (XX.out.trans (HBW.mono XX.out.size)); clear HBW KQ; obtain ⟨z0, z1, z2, z3⟩ := KK.out; obtain ⟨g0, g1, g2, g3⟩ := FF.out; clear H2))
        refine bodyPost_ret (results_ct (s := ⟨0, 0, 0, 0⟩) rfl _ _ rfl (set4 z0 z1 z2 z3 0 0 0 0)) rfl ?_
        exact ⟨⟨⟨0, 0, 0, 0⟩, false, rfl, nofun, fun _ => hno.out⟩, (((XX.out.setCell (p := ⟨w.heap.size, 0, none⟩) (by simp) _).setCell (p := ⟨w.heap.size, 1, none⟩) (by simp) _).setCell (p := ⟨w.heap.size, 2, none⟩) (by simp) _).setCell (p := ⟨w.heap.size, 3, none⟩) (by simp) _⟩
end Go.Proofs.YtmhlialdbggmdaaGreatDoor
