/- Contract: stone, a line of three parts. -/
import Derived.Test.YtmhlialdbggmdaaGreatDoorJ
namespace Go.Proofs.YtmhlialdbggmdaaGreatDoor
open Go.RowKit Go.Proofs Go.Shelf

def Fz (w : World) (b : Nat) : Prop := w.frozen? ⟨b, 0, none⟩ = false ∧ w.frozen? ⟨b, 1, none⟩ = false ∧ w.frozen? ⟨b, 2, none⟩ = false ∧ w.frozen? ⟨b, 3, none⟩ = false
theorem Fz.new (w : World) (s : St) : Fz (w.alloc (Sto s)) w.heap.size := ⟨by simp [go_sem], by simp [go_sem], by simp [go_sem], by simp [go_sem]⟩
theorem Fz.up {w w' : World} {b : Nat} {s : St} (h : Fz w b) (h4 : At4 w b 0 s) (hb : Below w.heap.size w w') : Fz w' b :=
  ⟨(hb.frozen (p := ⟨b, 0, none⟩) (lt_cell h4.1)).trans h.1, (hb.frozen (p := ⟨b, 1, none⟩) (lt_cell h4.1)).trans h.2.1, (hb.frozen (p := ⟨b, 2, none⟩) (lt_cell h4.1)).trans h.2.2.1, (hb.frozen (p := ⟨b, 3, none⟩) (lt_cell h4.1)).trans h.2.2.2⟩

theorem set4 {w : World} {b : Nat} {v0 v1 v2 v3 : Value} (h0 : w.cell? ⟨b, 0, none⟩ = some v0) (h1 : w.cell? ⟨b, 0 + 1, none⟩ = some v1) (h2 : w.cell? ⟨b, 0 + 2, none⟩ = some v2) (h3 : w.cell? ⟨b, 0 + 3, none⟩ = some v3) (T N x y : Int) :
    At4 ((((w.setCell ⟨b, 0, none⟩ (.int .i64 T)).setCell ⟨b, 1, none⟩ (.int .i64 N)).setCell ⟨b, 2, none⟩ (.int .i64 x)).setCell ⟨b, 3, none⟩ (.int .i64 y)) b 0 ⟨T, N, x, y⟩ := by
  refine ⟨?_, ?_, ?_, ?_⟩ <;> simp_all [go_sem]

/-- A line that is a stone's. -/
def stOf (a b d : ByteArray) (t : St) : Prop :=
  t.t = Lib.indexByte [114, 121] (a.data.toList.getD 0 0) ∧ t.n = (a.data.toList.getD 1 0).toNat - 49 ∧ intOk b.data.toList t.x ∧ intOk d.data.toList t.y ∧ 0 ≤ t.t ∧ 0 ≤ t.n ∧ t.n ≤ 7

def StP (a b d : ByteArray) (w : World) (e : Ending) (w' : World) : Prop := (∃ t v, e = .returned (.tuple #[Stv t, .bool v]) ∧ (v = true → stOf a b d t) ∧ (v = false → ∀ t, ¬ stOf a b d t)) ∧ Below w.heap.size w w'
theorem byte_at (a : ByteArray) (i : Nat) (h : i < a.size) : a[i] = a.data.toList.getD i 0 := by
  have h' : i < a.data.toList.length := by simpa using h
  rw [List.getD_eq_getElem?_getD, List.getElem?_eq_getElem h']; rfl
theorem byte_u (x : UInt8) : ((x.toNat : Int).toNat).toUInt8 = x := by
  show UInt8.ofNat _ = x
  simp
theorem byte_w (x : UInt8) : wrap64 (wrap64 (x.toNat : Int) - 49) = (x.toNat : Int) - 49 := by
  have := x.toNat_lt
  unfold wrap64; omega
set_option maxRecDepth 100000 in
set_option maxHeartbeats 4000000 in
theorem stone_long (s : ByteArray) (hs : s.size ≤ 2000) (w : World) (m : Int) (hm : w.cell? ⟨3, 0, none⟩ = some (.int .i64 m)) (a b d : ByteArray) (hp : partsB s = [a, b, d]) (ha : a.size = 2)
    (hsb : b.size ≤ 281474976710656) (hsd : d.size ≤ 281474976710656) (hT : Tab w) (hErr : ∀ W, Below w.heap.size w W → ErrMem W) :
    Calls Tryz.prog 51 #[.string s] w (StP a b d w) := by
  have H1 := Lib.hid (split_4 s hs w m hm a b d hp)
  have HT : Hid (∀ W', Below w.heap.size w W' → Tab W') := fun W' hb => Lib.tabBelow_of_tabIs hT W' hb
  have HE := Lib.hid hErr
  have H2 : Hid (∀ W', Below w.heap.size w W' → _) := fun W' hb => integer_any b hsb W' (HT.out _ hb) (HE.out _ hb)
  have H3 : Hid (∀ W', Below w.heap.size w W' → _) := fun W' hb => integer_any d hsd W' (HT.out _ hb) (HE.out _ hb)
  have hb0 := ((Below.refl w.heap.size w).alloc (Nat.le_refl _))
  clear hm hp hT hErr
  go_enter Tryz.func51, Tryz.ntmps51
  go_wp2_with (go_at_call 77; refine (H1.out _ (hb0 _) (w.heap.size + 1) (by simp)).mono ?_; rintro e w1 ⟨rfl, hb1, c0, c1, c2⟩)
  have HB1 : Hid (Below w.heap.size w w1) := (hb0 _).trans (hb1.mono (hb0 _).size)
  have K1 : Hid (At4 w1 w.heap.size 0 ⟨0, 0, 0, 0⟩) := (At4.new w _).up hb1
  have F1 : Hid (Fz w1 w.heap.size) := (Fz.new w _).up (At4.new w ⟨0, 0, 0, 0⟩) hb1
  have q0 : ∀ X : BW w1, X.to.cell? ⟨w.heap.size + 1, 0, none⟩ = some (.string a) := fun X => upc c0 X.same
  have q1 : ∀ X : BW w1, X.to.cell? ⟨w.heap.size + 1, 1, none⟩ = some (.string b) := fun X => upc c1 X.same
  have q2 : ∀ X : BW w1, X.to.cell? ⟨w.heap.size + 1, 2, none⟩ = some (.string d) := fun X => upc c2 X.same
  refine wp_region_quietB (by kernel_rfl) (by kernel_rfl) ?_
  repeat (go_big_quiet_step ((go_at_call 78; exact quietB ((Tryz.strings_IndexByte _ _ _).mono fun e w' ⟨he, hw⟩ => ⟨he, by subst hw; exact Below.refl _ _⟩))))
  refine wpQuiet_nil ?_
  rintro wy ⟨⟨wz, hby⟩, hwz⟩
  change wy = wz at hwz
  subst hwz
  have HB2 : Hid (Below w.heap.size w wy) := HB1.out.trans (hby.mono HB1.out.size)
  have K2 : Hid (At4 wy w.heap.size 0 ⟨0, 0, 0, 0⟩) := K1.out.up hby
  have F2 : Hid (Fz wy w.heap.size) := F1.out.up K1.out hby
  replace c1 := upc c1 hby
  replace c2 := upc c2 hby
  clear q0 q1 q2 hby c0 hb1
  generalize hT : Lib.indexByte _ _ = T
  generalize hN : wrap64 (wrap64 _ - 49) = N
  replace hT := Lib.hid hT
  replace hN := Lib.hid hN
  clear H1 hb0 K1 HB1 hsb hsd
  go_wp2_with (first
    | (go_at_call 79; have _mark := c1; clear _mark; refine (H2.out _ HB2.out).mono ?_; rintro e w2 ⟨⟨x, one, rfl, hx1, hx0⟩, hb3⟩; have HB3 : Hid (Below w.heap.size w w2) := HB2.out.trans (hb3.mono HB2.out.size); have K3 : Hid (At4 w2 w.heap.size 0 ⟨0, 0, 0, 0⟩) := K2.out.up hb3; have F3 : Hid (Fz w2 w.heap.size) := F2.out.up K2.out hb3; replace c2 := upc c2 hb3; have X1 := Lib.hid hx1; have X0 := Lib.hid hx0; clear hx1 hx0 hb3 c1)
    | (go_at_call 79; refine (H3.out _ HB3.out).mono ?_; rintro e w3 ⟨⟨y, two, rfl, hx1, hx0⟩, hb3⟩; have HB4 : Hid (Below w.heap.size w w3) := HB3.out.trans (hb3.mono HB3.out.size); have K4 : Hid (At4 w3 w.heap.size 0 ⟨0, 0, 0, 0⟩) := K3.out.up hb3; obtain ⟨z0, z1, z2, z3⟩ := K4.out; obtain ⟨g0, g1, g2, g3⟩ := F3.out.up K3.out hb3; have Y1 := Lib.hid hx1; have Y0 := Lib.hid hx0; clear hx1 hx0 hb3 c2)
    | (go_at_call 63; refine (withinInt _ _ _ _).mono ?_; rintro e w4 ⟨rfl, hw⟩; subst hw))
  all_goals (refine bodyPost_ret (results_ct (s := ⟨T, N, x, y⟩) rfl _ _ rfl (set4 z0 z1 z2 z3 T N x y)) rfl ?_)
  all_goals (refine ⟨⟨⟨T, N, x, y⟩, _, rfl, ?_, ?_⟩, (((HB4.out.setCell (p := ⟨w.heap.size, 0, none⟩) (by simp) _).setCell (p := ⟨w.heap.size, 1, none⟩) (by simp) _).setCell (p := ⟨w.heap.size, 2, none⟩) (by simp) _).setCell (p := ⟨w.heap.size, 3, none⟩) (by simp) _⟩)
  all_goals (have eT : T = Lib.indexByte [114, 121] (a.data.toList.getD 0 0) := by rw [← hT.out, byte_u, byte_at])
  all_goals (have eN : N = ((a.data.toList.getD 1 0).toNat : Int) - 49 := by rw [← hN.out, byte_w, byte_at])
  all_goals (have one1 := X1.out; have one0 := X0.out; have two1 := Y1.out; have two0 := Y0.out)
  all_goals unfold stOf
  all_goals (try (simp only [Bool.and_eq_true, decide_eq_true_eq, Bool.and_eq_false_iff, decide_eq_false_iff_not]))
  all_goals (try (intro h1 t2 h2; first | (exact absurd h2.2.2.1 (one0 (Bool.eq_false_iff.2 (by assumption)) _)) | (exact absurd h2.2.2.2.1 (two0 (Bool.eq_false_iff.2 (by assumption)) _)) | (have := h2.1; have := h2.2.1; omega)))
  all_goals (try (intro h1; exact ⟨eT, eN, one1 (by assumption), two1 (by assumption), by omega, by omega, by omega⟩))
  all_goals (try nofun)
end Go.Proofs.YtmhlialdbggmdaaGreatDoor
