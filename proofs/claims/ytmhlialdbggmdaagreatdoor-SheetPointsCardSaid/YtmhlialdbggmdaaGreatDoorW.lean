/- Contract: Print. -/
import Derived.Test.YtmhlialdbggmdaaGreatDoorV
import Derived.Test.YtmhlialdbggmdaaGreatDoorQt
import Derived.Test.YtmhlialdbggmdaaGreatDoorBu
import Derived.Lib.VarintMem
import Derived.Lib.ItoaLen
import Derived.Lib.AppendIntMem
import Derived.Deep.Cut
namespace Go.Proofs.YtmhlialdbggmdaaGreatDoor
open Go.RowKit Go.Proofs Go.Shelf

/-- The text of a stone, and of a position. -/
def restL (s : St) : List UInt8 := (((Lib.itoa (s.n + 1) ++ [32]) ++ Lib.itoa s.x) ++ [32]) ++ Lib.itoa s.y ++ [10]
def lineL (s : St) : List UInt8 := (if s.t = 1 then 121 else 114) :: restL s
def printL (l : List St) : List UInt8 := l.flatMap lineL
theorem rest_len {s : St} (h : okSt s) : (restL s).length ≤ 66 := by
  obtain ⟨⟨-, h1, h2⟩, ⟨⟨h3, h4⟩, h5, h6⟩, -⟩ := h
  have a := Lib.itoa_length_le (s.n + 1) (by omega) (by omega)
  have b := Lib.itoa_length_le s.x (by omega) (by omega)
  have c := Lib.itoa_length_le s.y (by omega) (by omega)
  unfold restL; simp only [List.length_append, List.length_cons, List.length_nil]; omega
theorem print_snoc {l : List St} {k : Nat} (h : k < l.length) : printL (l.take (k + 1)) = printL (l.take k) ++ lineL (l[k]'h) := by
  unfold printL; rw [List.take_succ_eq_append_getElem h, List.flatMap_append]; simp
theorem print_len {l : List St} (h : ∀ j (h : j < l.length), okSt (l[j]'h)) : ∀ k, k ≤ l.length → (printL (l.take k)).length ≤ 67 * k
  | 0, _ => by simp [printL]
  | k + 1, hk => by
    have ih := print_len h k (by omega)
    rw [print_snoc (by omega), List.length_append]
    have := rest_len (h k (by omega))
    unfold lineL; simp only [List.length_cons]; omega

abbrev Tab (w : World) : Prop := Lib.TabIs Tryz.prog w "internal/strconv.uint64pow10" .u64 Lib.pow10Tab
theorem itoa_back (n : Int) (h0 : -9223372036854775808 ≤ n) (h1 : n ≤ 9223372036854775807) (w : World) (ht : Tab w) : Calls Tryz.prog 45 #[.int .i64 n] w (Back (.string ⟨(Lib.itoa n).toArray⟩) w) :=
  (Tryz.strconv_Itoa n h0 h1 w ht).mono fun e w' ⟨he, k, os, hw⟩ => ⟨he, by rw [hw]; exact Lib.below_grow _ _ (Nat.le_refl _) _ _⟩
theorem fmt_back (n : Int) (h0 : -9223372036854775808 ≤ n) (h1 : n ≤ 9223372036854775807) (w : World) (ht : Tab w) : Calls Tryz.prog 46 #[.int .i64 n, .int .i64 10] w (Back (.string ⟨(Lib.itoa n).toArray⟩) w) :=
  (Tryz.strconv_FormatInt_10 n h0 h1 w ht).mono fun e w' ⟨he, k, os, hw⟩ => ⟨he, by rw [hw]; exact Lib.below_grow _ _ (Nat.le_refl _) _ _⟩
theorem IsBld.up {B b : Nat} {bs : List Value} {W W' : World} (h : IsBld B b bs W) (hb : Below W.heap.size W W') : IsBld B b bs W' := by
  have one : ∀ p, Bld B b p bs W → Bld B b p bs W' := by
    rintro p ⟨hB, v, hbk, ⟨hl, ho⟩, hne⟩
    have kp : ∀ {k : Nat} {o : Obj}, W.heap[k]? = some o → W'.heap[k]? = some o := fun hk => (hb.block _ (Array.getElem?_eq_some_iff.1 hk).1).trans hk
    refine ⟨hB, v, kp hbk, ⟨hl, ?_⟩, hne⟩
    rcases ho with ho | ⟨g, cap, cur, fz, hv, hbg, hg, r⟩
    · exact .inl ho
    · exact .inr ⟨g, cap, cur, fz, hv, hbg, kp hg, r⟩
  exact h.imp (one _) (one _)
theorem IsBld.lt {B b : Nat} {bs : List Value} {W : World} (h : IsBld B b bs W) : b < W.heap.size := by
  rcases h with h | h <;> obtain ⟨-, v, h1, -⟩ := h <;> exact (Array.getElem?_eq_some_iff.1 h1).1

theorem At4.heap {w w' : World} {b o : Nat} {s : St} (h : At4 w b o s) (he : w'.heap[b]? = w.heap[b]?) : At4 w' b o s :=
  ⟨(cell_heap he).trans h.1, (cell_heap he).trans h.2.1, (cell_heap he).trans h.2.2.1, (cell_heap he).trans h.2.2.2⟩

set_option maxRecDepth 100000 in
set_option maxHeartbeats 4000000 in
theorem Print_any (l : List St) (v : Value) (w : World) (hrow : RowS w v l) (hT : Tab w) :
    Calls Tryz.prog 13 #[v] w fun e w' => e = .returned (if chkB l = true then .tuple #[.string ⟨(printL l).toArray⟩, .int .i64 0] else .tuple #[.string ⟨#[]⟩, .int .i64 2]) ∧ Below w.heap.size w w' := by
  have H1 := Lib.hid (fun w h => Check_any l v w h)
  have HR0 := Lib.hid hrow
  have HT : Hid (∀ W', Below w.heap.size w W' → Tab W') := fun W' hb => Lib.tabBelow_of_tabIs hT W' hb
  obtain ⟨A, cap, rfl, hlc, ⟨hcap, -⟩, hcells⟩ := hrow
  have HR := Lib.hid hcells
  clear hcells hT
  cases hc : chkB l
  · rw [hc] at H1
    go_enter Tryz.func13, Tryz.ntmps13
    go_wp2_with (go_at_call 28; refine (H1.out _ HR0.out).mono ?_; rintro e w1 ⟨rfl, hb1⟩)
    go_ret2
    exact ⟨rfl, hb1⟩
  · rw [hc] at H1
    have HF := Lib.hid (chk_facts hc)
    rw [if_pos rfl]
    clear hc
    go_enter Tryz.func13, Tryz.ntmps13
    go_wp2_with (go_at_call 28; refine (H1.out _ HR0.out).mono ?_; rintro e w1 ⟨rfl, hb1⟩)
    have HB1 := Lib.hid hb1
    have hI1 : IsBld w1.heap.size w1.heap.size (Lib.byteCells []) (w1.alloc (.cells #[.pointer none, .slice none 0 0] 66)) := Lib.IsBuilderF.of (Lib.fresh_isBuilder 66 5 w1)
    clear hb1
    go_loopw [12] (fun iv wr => ∃ k : Nat, k ≤ l.length ∧ iv = .int .i64 k ∧ Hid (IsBld w1.heap.size w1.heap.size (Lib.byteCells (printL (l.take k))) wr) ∧ Hid (Below w1.heap.size w1 wr)) (fun iv _ => l.length - (intOf iv).toNat)
    case atStart => exact ⟨0, by omega, rfl, hI1, (Below.refl _ _).alloc (Nat.le_refl _) _⟩
    case round =>
      obtain ⟨k, hk, rfl, hI, hb⟩ := hrel
      have HI := Lib.hid hI.out
      have HB := Lib.hid hb.out
      clear hI hb
      by_cases hlt : k < l.length
      · have hlt' : (k : Int) < (l.length : Int) := by omega
        obtain ⟨b, o, rfl, hc⟩ := HR.out (by intro h; subst h; simp at hlt)
        have hok := HF.out.2 k hlt
        have hpl := print_len HF.out.2 k hk
        have h16 := HF.out.1
        have hsn := print_snoc hlt
        obtain ⟨s, hs⟩ : ∃ s, l[k]'hlt = s := ⟨_, rfl⟩
        have hA := (hc k hlt).up (HB1.out.trans (HB.out.mono HB1.out.size))
        rw [hs] at hA hok hsn
        obtain ⟨a0, a1, a2, a3⟩ := hA
        have HOK := Lib.hid hok
        have HSN := Lib.hid hsn
        have hrl := rest_len hok
        clear hc hs hok hsn
        obtain ⟨s1, s2, s3, s4⟩ := s
        obtain ⟨wx, hwx⟩ : ∃ wx, wr.alloc (Sto ⟨s1, s2, s3, s4⟩) = wx := ⟨_, rfl⟩
        have hzr := HB.out.size
        have K0 : Hid (At4 wx wr.heap.size 0 ⟨s1, s2, s3, s4⟩) := by show At4 _ _ _ _; rw [← hwx]; exact At4.new wr ⟨s1, s2, s3, s4⟩
        have I0 : Hid (IsBld w1.heap.size w1.heap.size (Lib.byteCells (printL (l.take k))) wx) := by show IsBld _ _ _ _; rw [← hwx]; exact HI.out.up ((Below.refl _ _).alloc (Nat.le_refl _) _)
        have X0 : Hid (Below w1.heap.size w1 wx) := by show Below _ _ _; rw [← hwx]; exact HB.out.alloc hzr _
        obtain ⟨b0, b1, b2, b3⟩ := K0.out
        have ht : s1 = 0 ∨ s1 = 1 := by have := HOK.out.1.1; simp only at this; omega
        have hbl : (Lib.byteCells (printL (l.take k))).length ≤ 1072 := by rw [Lib.byteCells_length]; omega
        have hn1 : IntKind.i64.wrap (s2 + 1) = s2 + 1 := IntWalk.i64_in _ (by have := HOK.out.1.2; simp only at this; omega)
        have hn2 : wrap64 (s2 + 1) = s2 + 1 := by have := HOK.out.1.2; simp only at this; unfold wrap64; omega
        have HN1 := Lib.hid hn1
        have HN2 := Lib.hid hn2
        obtain ⟨SA, hSA⟩ : ∃ S : ByteArray, (⟨(Lib.itoa (s2 + 1)).toArray⟩ : ByteArray) = S := ⟨_, rfl⟩
        obtain ⟨SB, hSB⟩ : ∃ S : ByteArray, (⟨(Lib.itoa s3).toArray⟩ : ByteArray) = S := ⟨_, rfl⟩
        obtain ⟨SC, hSC⟩ : ∃ S : ByteArray, (⟨(Lib.itoa s4).toArray⟩ : ByteArray) = S := ⟨_, rfl⟩
        have bA := Lib.itoa_length_le (s2 + 1) (by have := HOK.out.1.2; simp only at this; omega) (by have := HOK.out.1.2; simp only at this; omega)
        have bB := Lib.itoa_length_le s3 (by have := HOK.out.2.1; unfold OkS at this; simp only at this; omega) (by have := HOK.out.2.1; unfold OkS at this; simp only at this; omega)
        have bC := Lib.itoa_length_le s4 (by have := HOK.out.2.1; unfold OkS at this; simp only at this; omega) (by have := HOK.out.2.1; unfold OkS at this; simp only at this; omega)
        have zA : SA.size ≤ 21 := by rw [← hSA]; show (Lib.itoa (s2 + 1)).toArray.size ≤ 21; rw [List.size_toArray]; exact bA
        have zB : SB.size ≤ 21 := by rw [← hSB]; show (Lib.itoa s3).toArray.size ≤ 21; rw [List.size_toArray]; exact bB
        have zC : SC.size ≤ 21 := by rw [← hSC]; show (Lib.itoa s4).toArray.size ≤ 21; rw [List.size_toArray]; exact bC
        have XT : Hid (∀ W', Below w1.heap.size w1 W' → Tab W') := fun W' h => HT.out W' (HB1.out.trans (h.mono HB1.out.size))
        have HA1 : Hid (∀ W', Below w1.heap.size w1 W' → Calls Tryz.prog 45 #[.int .i64 (s2 + 1)] W' (Back (.string SA) W')) := fun W' h => by rw [← hSA]; exact itoa_back _ (by have := HOK.out.1.2; simp only at this; omega) (by have := HOK.out.1.2; simp only at this; omega) W' (XT.out W' h)
        have HB2 : Hid (∀ W', Below w1.heap.size w1 W' → Calls Tryz.prog 46 #[.int .i64 s3, .int .i64 10] W' (Back (.string SB) W')) := fun W' h => by rw [← hSB]; exact fmt_back _ (by have := HOK.out.2.1; unfold OkS at this; simp only at this; omega) (by have := HOK.out.2.1; unfold OkS at this; simp only at this; omega) W' (XT.out W' h)
        have HC2 : Hid (∀ W', Below w1.heap.size w1 W' → Calls Tryz.prog 46 #[.int .i64 s4, .int .i64 10] W' (Back (.string SC) W')) := fun W' h => by rw [← hSC]; exact fmt_back _ (by have := HOK.out.2.1; unfold OkS at this; simp only at this; omega) (by have := HOK.out.2.1; unfold OkS at this; simp only at this; omega) W' (XT.out W' h)
        have HLIST : Hid (restL ⟨s1, s2, s3, s4⟩ = (((((SA.data.toList ++ [32]) ++ SB.data.toList) ++ [32]) ++ SC.data.toList) ++ [10])) := by show _ = _; rw [← hSA, ← hSB, ← hSC]; rfl
        obtain ⟨SS, hSS⟩ : ∃ S : ByteArray, SA ++ ⟨#[32]⟩ ++ SB ++ ⟨#[32]⟩ ++ SC ++ ⟨#[10]⟩ = S := ⟨_, rfl⟩
        have HSS : Hid (SS.data.toList = restL ⟨s1, s2, s3, s4⟩) := by show _ = _; rw [HLIST.out, ← hSS]; simp
        have zS : SS.size ≤ 66 := by rw [Lib.size_eq, HSS.out]; exact hrl
        clear hSA hSB hSC bA bB bC hn1 hn2
        have hz1 := X0.out.size
        have hxo : wx.heap[wr.heap.size]? = some (Sto ⟨s1, s2, s3, s4⟩) := by rw [← hwx]; exact World.alloc_heap_new _ _
        rcases ht with rfl | rfl
        · go_upto_region 8 with (go_at_call 43; (try rw [hwx]); refine (WriteByte_any w1.heap.size w1.heap.size _ 114 _ I0.out (by omega) hz1).mono ?_; rintro e w2 ⟨rfl, hI2, hb2, hk2⟩)
          have K2 : Hid (At4 w2 wr.heap.size 0 ⟨0, s2, s3, s4⟩) := K0.out.heap (by rw [hk2 _ _ hxo (by intro e; injection e with e; have := HI.out.lt; omega) (by intro c fz e; cases e), hxo])
          have X2 : Hid (Below w1.heap.size w1 w2) := X0.out.trans hb2
          have q1 : ∀ X : BW w2, X.to.cell? ⟨wr.heap.size, 1, none⟩ = some (.int .i64 s2) := fun X => upc K2.out.2.1 X.same
          have q2 : ∀ X : BW w2, X.to.cell? ⟨wr.heap.size, 2, none⟩ = some (.int .i64 s3) := fun X => upc K2.out.2.2.1 X.same
          have q3 : ∀ X : BW w2, X.to.cell? ⟨wr.heap.size, 3, none⟩ = some (.int .i64 s4) := fun X => upc K2.out.2.2.2 X.same
          have I2 : Hid (IsBld w1.heap.size w1.heap.size (Lib.byteCells (printL (l.take k)) ++ [.int .u8 114]) w2) := Or.inr hI2
          clear hI2 hb2 hk2 a0 a1 a2 a3 b0 b1 b2 b3
          refine wp_region_quiet_tail 17 (by kernel_rfl) (by kernel_rfl) ?_
          simp only [List.take_succ_cons, List.take_zero, List.drop_succ_cons, List.drop_zero]
          repeat (go_big_quiet_step ((first
            | (go_at_call 45; (try rw [HN1.out]); (try rw [HN2.out]); exact quietB (HA1.out _ (X2.out.trans (Below.mono (BW.same _) X2.out.size))))
            | (go_at_call 46; first | exact quietB (HB2.out _ (X2.out.trans (Below.mono (BW.same _) X2.out.size))) | exact quietB (HC2.out _ (X2.out.trans (Below.mono (BW.same _) X2.out.size)))))))
          refine wpQuiet_nil ?_
          rintro wy ⟨⟨wz, hby⟩, hwz⟩
          change wy = wz at hwz
          subst hwz
          have Iy := Lib.hid (I2.out.up hby)
          have Xy := Lib.hid (X2.out.trans (hby.mono X2.out.size))
          have hzy := Xy.out.size
          clear q1 q2 q3
          go_wp2_with (go_at_call 44; (try rw [hSS]); refine (WriteString_any w1.heap.size w1.heap.size _ SS _ Iy.out (by rw [List.length_append, Lib.byteCells_length]; simp only [List.length_cons, List.length_nil]; omega) hzy).mono ?_; rintro e w4 ⟨rfl, hI4, hb4, hk4⟩)
          have hfin : (Lib.byteCells (printL (l.take k)) ++ [Value.int .u8 114]) ++ Lib.strCells SS = Lib.byteCells (printL (l.take (k + 1))) := by
            rw [HSN.out, Lib.byteCells_append, Lib.strCells_eq, HSS.out, List.append_assoc]; rfl
          rw [hfin] at hI4
          have HI4 : Hid (IsBld w1.heap.size w1.heap.size (Lib.byteCells (printL (l.take (k + 1)))) w4) := Or.inr hI4
          go_roundw
          case rel => exact ⟨k + 1, by omega, by go_num, HI4, Xy.out.trans hb4⟩
          case measure => simp [intOf]; omega
        · go_upto_region 8 with (go_at_call 43; (try rw [hwx]); refine (WriteByte_any w1.heap.size w1.heap.size _ 121 _ I0.out (by omega) hz1).mono ?_; rintro e w2 ⟨rfl, hI2, hb2, hk2⟩)
          have K2 : Hid (At4 w2 wr.heap.size 0 ⟨1, s2, s3, s4⟩) := K0.out.heap (by rw [hk2 _ _ hxo (by intro e; injection e with e; have := HI.out.lt; omega) (by intro c fz e; cases e), hxo])
          have X2 : Hid (Below w1.heap.size w1 w2) := X0.out.trans hb2
          have q1 : ∀ X : BW w2, X.to.cell? ⟨wr.heap.size, 1, none⟩ = some (.int .i64 s2) := fun X => upc K2.out.2.1 X.same
          have q2 : ∀ X : BW w2, X.to.cell? ⟨wr.heap.size, 2, none⟩ = some (.int .i64 s3) := fun X => upc K2.out.2.2.1 X.same
          have q3 : ∀ X : BW w2, X.to.cell? ⟨wr.heap.size, 3, none⟩ = some (.int .i64 s4) := fun X => upc K2.out.2.2.2 X.same
          have I2 : Hid (IsBld w1.heap.size w1.heap.size (Lib.byteCells (printL (l.take k)) ++ [.int .u8 121]) w2) := Or.inr hI2
          clear hI2 hb2 hk2 a0 a1 a2 a3 b0 b1 b2 b3
          refine wp_region_quiet_tail 17 (by kernel_rfl) (by kernel_rfl) ?_
          simp only [List.take_succ_cons, List.take_zero, List.drop_succ_cons, List.drop_zero]
          repeat (go_big_quiet_step ((first
            | (go_at_call 45; (try rw [HN1.out]); (try rw [HN2.out]); exact quietB (HA1.out _ (X2.out.trans (Below.mono (BW.same _) X2.out.size))))
            | (go_at_call 46; first | exact quietB (HB2.out _ (X2.out.trans (Below.mono (BW.same _) X2.out.size))) | exact quietB (HC2.out _ (X2.out.trans (Below.mono (BW.same _) X2.out.size)))))))
          refine wpQuiet_nil ?_
          rintro wy ⟨⟨wz, hby⟩, hwz⟩
          change wy = wz at hwz
          subst hwz
          have Iy := Lib.hid (I2.out.up hby)
          have Xy := Lib.hid (X2.out.trans (hby.mono X2.out.size))
          have hzy := Xy.out.size
          clear q1 q2 q3
          go_wp2_with (go_at_call 44; (try rw [hSS]); refine (WriteString_any w1.heap.size w1.heap.size _ SS _ Iy.out (by rw [List.length_append, Lib.byteCells_length]; simp only [List.length_cons, List.length_nil]; omega) hzy).mono ?_; rintro e w4 ⟨rfl, hI4, hb4, hk4⟩)
          have hfin : (Lib.byteCells (printL (l.take k)) ++ [Value.int .u8 121]) ++ Lib.strCells SS = Lib.byteCells (printL (l.take (k + 1))) := by
            rw [HSN.out, Lib.byteCells_append, Lib.strCells_eq, HSS.out, List.append_assoc]; rfl
          rw [hfin] at hI4
          have HI4 : Hid (IsBld w1.heap.size w1.heap.size (Lib.byteCells (printL (l.take (k + 1)))) w4) := Or.inr hI4
          go_roundw
          case rel => exact ⟨k + 1, by omega, by go_num, HI4, Xy.out.trans hb4⟩
          case measure => simp [intOf]; omega
      · obtain rfl : k = l.length := by omega
        have hI' := HI.out
        rw [List.take_length] at hI'
        have hzr := HB.out.size
        go_wp2_with (go_at_call 47; refine (Tryz.Builder_String_any_k w1.heap.size w1.heap.size _ _ hI' hzr).mono ?_; rintro e w2 ⟨rfl, h3, hb3, hk3⟩)
        go_ret2
        exact ⟨rfl, HB1.out.trans ((HB.out.trans hb3).mono HB1.out.size)⟩
end Go.Proofs.YtmhlialdbggmdaaGreatDoor
