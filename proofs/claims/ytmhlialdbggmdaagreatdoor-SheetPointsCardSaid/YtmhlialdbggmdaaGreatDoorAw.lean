/- Contract: the examples that the chapter opens with (awake). -/
import Derived.Test.YtmhlialdbggmdaaGreatDoorPa
namespace Go.Proofs.YtmhlialdbggmdaaGreatDoor
open Go.RowKit Go.Proofs Go.Shelf

theorem z1 : zoneR 0 129368064 = .tuple #[.int .i64 2, .int .i64 0] := by kernel_rfl
theorem z2 : zoneR 0 129368065 = .tuple #[.int .i64 0, .int .i64 0] := by kernel_rfl
theorem z3 : zoneR 0 (-129368065) = .tuple #[.int .i64 1, .int .i64 0] := by kernel_rfl
theorem c1 : touR 0 0 19005440 0 = .tuple #[.int .i64 0, .int .i64 0] := by kernel_rfl
def exL : List St := [⟨0, 0, 0, 0⟩, ⟨0, 1, 0, 26214400⟩, ⟨1, 0, 0, 65536000⟩, ⟨1, 1, 19660800, 0⟩]
theorem exL_ok : chkB exL = true := by kernel_rfl
theorem exL_hs : hIdx exL = [0, 1, 2, 3] := by kernel_rfl

/-- Two lists with the same members, in the order of a strict order, are one. -/
theorem perm_only {key : Nat → Int} : ∀ {d d' : List Nat}, d.Perm d' → d.Pairwise (lx key) → d'.Pairwise (lx key) → d = d'
  | [], d', h, _, _ => by have := h.length_eq; simp at this; exact (List.length_eq_zero_iff.1 this.symm).symm
  | a :: d, [], h, _, _ => by have := h.length_eq; simp at this
  | a :: d, b :: d', h, h1, h2 => by
    rw [List.pairwise_cons] at h1 h2
    have hab : a = b := by
      have m1 : a ∈ b :: d' := h.mem_iff.1 (by simp)
      have m2 : b ∈ a :: d := h.mem_iff.2 (by simp)
      rcases List.mem_cons.1 m1 with e | m1
      · exact e
      · rcases List.mem_cons.1 m2 with e | m2
        · exact e.symm
        · have := h2.1 a m1
          have := h1.1 b m2
          unfold lx at *; omega
    subst hab
    rw [perm_only (List.Perm.cons_inv h) h1.2 h2.2]
theorem isNear_only {l : List St} {d d' : List Nat} (h : IsNear l d) (h' : IsNear l d') : d = d' := perm_only (h.1.trans h'.1.symm) h.2 h'.2
instance (key : Nat → Int) (a b : Nat) : Decidable (lx key a b) := by unfold lx; infer_instance
theorem exL_near : IsNear exL [0, 3, 1, 2] := ⟨by rw [exL_hs]; exact List.Perm.cons 0 (by decide), by decide +kernel⟩
theorem exL_cnt : cntT exL [0, 3, 1, 2] = (0, 1) := by kernel_rfl
def exP : List St := [⟨1, 2, 0, -1⟩]
theorem exP_ok : chkB exP = true := by kernel_rfl
theorem exP_text : printL exP = [121, 51, 32, 48, 32, 45, 49, 10] := by
  have h3 : Lib.itoa (2 + 1) = [51] := itoa_name (n := 2) (by decide) (by decide)
  have h0 : Lib.itoa 0 = [48] := by unfold Lib.itoa; rw [if_neg (by decide), Lib.decDigits, dif_pos (by decide)]; rfl
  have h1 : Lib.itoa (-1) = [45, 49] := by
    unfold Lib.itoa; rw [if_pos (by decide)]
    have : (-1 : Int).natAbs = 1 := rfl
    rw [this, Lib.decDigits, dif_pos (by decide)]; rfl
  show lineL _ ++ [] = _
  unfold lineL restL
  rw [h3, h0, h1]; rfl
def exT : ByteArray := ⟨#[114, 49, 32, 48, 32, 48, 10, 114, 49, 32, 48, 32, 48, 48, 10]⟩
theorem itoa_zero : Lib.itoa 0 = [48] := by unfold Lib.itoa; rw [if_neg (by decide), Lib.decDigits, dif_pos (by decide)]; rfl
theorem exT_bad : ParC 16 exT.data.toList (.bad 7) := by
  have e1 : lineB ⟨0, 0, 0, 0⟩ = [114, 49, 32, 48, 32, 48] := by
    unfold lineB
    have := itoa_name (n := 0) (by decide) (by decide)
    simp only [this, itoa_zero]; rfl
  have e2 : printL [⟨0, 0, 0, 0⟩] = [114, 49, 32, 48, 32, 48, 10] := by rw [print_cons0, e1]; rfl
  refine ⟨[⟨0, 0, 0, 0⟩], [114, 49, 32, 48, 32, 48, 48, 10], by rw [e2]; rfl, ?_, by simp, by simp, by rw [e2]; rfl, .inr ?_⟩
  · intro t ht
    rw [List.mem_singleton] at ht; subst ht
    refine ⟨.inl rfl, ⟨by decide, by decide⟩, ?_, ?_⟩ <;> (refine ⟨⟨by decide, by decide⟩, ?_⟩; rw [itoa_zero]; decide)
  · intro t r ht he
    have he' : [114, 49, 32, 48, 32, 48, 48] ++ 10 :: [] = lineB t ++ 10 :: r := he
    obtain ⟨h1, -⟩ := cut_uniq he' (by decide) (lineB_no t)
    have h2 : lineOk [114, 49, 32, 48, 32, 48, 48] t := ⟨ht, h1⟩
    have h3 := (line_iff (a := [114, 49]) (b := [48]) (d := [48, 48]) rfl (by decide) (by decide) t).1 h2
    obtain ⟨hy, hb, -⟩ := h3.2.2.2.2.1
    have h4 := parse_itoa hb.1 hb.2
    rw [← hy] at h4
    have h5 : Lib.parseIntB 64 [48, 48] = .ok 0 := by decide +kernel
    rw [h5] at h4
    injection h4 with h4
    rw [← h4, itoa_zero] at hy
    cases hy
theorem RowS.lit4 (W : World) (a b c d : St) : RowS (W.alloc (.cells (stC a ++ (stC b ++ (stC c ++ stC d))).toArray 53)) (.slice (some ⟨W.heap.size, 0, none⟩) 4 4) [a, b, c, d] := by
  have h := World.alloc_heap_new W (.cells (stC a ++ (stC b ++ (stC c ++ stC d))).toArray 53)
  refine ⟨_, _, rfl, by simp, ⟨by simp, by unfold maxLen; omega⟩, fun _ => ⟨W.heap.size, 0, rfl, fun j hj => ?_⟩⟩
  have one : ∀ i, (W.alloc (.cells (stC a ++ (stC b ++ (stC c ++ stC d))).toArray 53)).cell? ⟨W.heap.size, i, none⟩ = (stC a ++ (stC b ++ (stC c ++ stC d)))[i]? := fun i => by
    unfold World.cell?; rw [h]; simp
  rcases j with _ | _ | _ | _ | j
  · exact ⟨one 0, one 1, one 2, one 3⟩
  · exact ⟨one 4, one 5, one 6, one 7⟩
  · exact ⟨one 8, one 9, one 10, one 11⟩
  · exact ⟨one 12, one 13, one 14, one 15⟩
  · simp at hj; omega
theorem RowS.lit1 (W : World) (a : St) : RowS (W.alloc (.cells (stC a).toArray 53)) (.slice (some ⟨W.heap.size, 0, none⟩) 1 1) [a] := by
  have h := World.alloc_heap_new W (.cells (stC a).toArray 53)
  refine ⟨_, _, rfl, by simp, ⟨by simp, by unfold maxLen; omega⟩, fun _ => ⟨W.heap.size, 0, rfl, fun j hj => ?_⟩⟩
  have one : ∀ i, (W.alloc (.cells (stC a).toArray 53)).cell? ⟨W.heap.size, i, none⟩ = (stC a)[i]? := fun i => by
    unfold World.cell?; rw [h]; simp
  rcases j with _ | j
  · exact ⟨one 0, one 1, one 2, one 3⟩
  · simp at hj

set_option maxRecDepth 100000 in
set_option maxHeartbeats 4000000 in
theorem awake_any (w : World) (hT : Tab w) (hE : ErrMem w) : Calls Tryz.prog 12 #[] w (Back (.bool true) w) := by
  have HT : Hid (∀ W', Below w.heap.size w W' → Tab W') := fun W' hb => Lib.tabBelow_of_tabIs hT W' hb
  have HE : Hid (∀ W', Below w.heap.size w W' → ErrMem W') := fun W' hb => hE.up hb
  have Hz1 : Hid (∀ w, Calls Tryz.prog 18 #[.agg #[.int .i64 0, .int .i64 129368064]] w (Back (.tuple #[.int .i64 2, .int .i64 0]) w)) := fun w => by rw [← z1]; exact Zone_any _ _ w
  have Hz2 : Hid (∀ w, Calls Tryz.prog 18 #[.agg #[.int .i64 0, .int .i64 129368065]] w (Back (.tuple #[.int .i64 0, .int .i64 0]) w)) := fun w => by rw [← z2]; exact Zone_any _ _ w
  have Hz3 : Hid (∀ w, Calls Tryz.prog 18 #[.agg #[.int .i64 0, .int .i64 (-129368065)]] w (Back (.tuple #[.int .i64 1, .int .i64 0]) w)) := fun w => by rw [← z3]; exact Zone_any _ _ w
  have Hc1 : Hid (∀ w, Calls Tryz.prog 10 #[.agg #[.int .i64 0, .int .i64 0], .agg #[.int .i64 19005440, .int .i64 0]] w (Back (.tuple #[.int .i64 0, .int .i64 0]) w)) := fun w => by rw [← c1]; exact Contact_any _ _ _ _ w
  have Hat : ∀ (x y p q : Int), x * 65536 = p → y * 65536 = q → (-100000000 ≤ x ∧ x ≤ 100000000) → (-100000000 ≤ y ∧ y ≤ 100000000) → Hid (∀ w, Calls Tryz.prog 42 #[.int .i64 x, .int .i64 y] w (Back (.agg #[.int .i64 p, .int .i64 q]) w)) :=
    fun x y p q h1 h2 h3 h4 w => by rw [← h1, ← h2]; exact at_any x y w h3 h4
  have A1 := Hat 0 1974 0 129368064 (by decide) (by decide) (by decide) (by decide)
  have A2 := Hat 0 0 0 0 (by decide) (by decide) (by decide) (by decide)
  have A3 := Hat 290 0 19005440 0 (by decide) (by decide) (by decide) (by decide)
  have A4 := Hat 0 400 0 26214400 (by decide) (by decide) (by decide) (by decide)
  have A5 := Hat 0 1000 0 65536000 (by decide) (by decide) (by decide) (by decide)
  have A6 := Hat 300 0 19660800 0 (by decide) (by decide) (by decide) (by decide)
  have B : Hid (Below w.heap.size w w) := Below.refl _ _
  clear hT hE Hat
  go_enter Tryz.func12, Tryz.ntmps12
  go_upto_region 5 with (first
    | (go_at_call 42; first
        | ((with_reducible refine (A1.out _).mono ?_); rintro e w1 ⟨rfl, hb1⟩; replace B := Lib.hid (B.out.trans (hb1.mono B.out.size)); clear hb1)
        | ((with_reducible refine (A2.out _).mono ?_); rintro e w1 ⟨rfl, hb1⟩; replace B := Lib.hid (B.out.trans (hb1.mono B.out.size)); clear hb1)
        | ((with_reducible refine (A3.out _).mono ?_); rintro e w1 ⟨rfl, hb1⟩; replace B := Lib.hid (B.out.trans (hb1.mono B.out.size)); clear hb1))
    | (go_at_call 18; first
        | ((with_reducible refine (Hz1.out _).mono ?_); rintro e w1 ⟨rfl, hb1⟩; replace B := Lib.hid (B.out.trans (hb1.mono B.out.size)); clear hb1)
        | ((with_reducible refine (Hz2.out _).mono ?_); rintro e w1 ⟨rfl, hb1⟩; replace B := Lib.hid (B.out.trans (hb1.mono B.out.size)); clear hb1)
        | ((with_reducible refine (Hz3.out _).mono ?_); rintro e w1 ⟨rfl, hb1⟩; replace B := Lib.hid (B.out.trans (hb1.mono B.out.size)); clear hb1))
    | (go_at_call 10; (with_reducible refine (Hc1.out _).mono ?_); rintro e w1 ⟨rfl, hb1⟩; replace B := Lib.hid (B.out.trans (hb1.mono B.out.size)); clear hb1))
  clear Hz1 Hz2 Hz3 Hc1 A1 A3
  go_upto_region 6 with (go_at_call 42; first
        | ((with_reducible refine (A2.out _).mono ?_); rintro e w2 ⟨rfl, hb1⟩; replace B := Lib.hid (B.out.trans (hb1.mono B.out.size)); clear hb1)
        | ((with_reducible refine (A4.out _).mono ?_); rintro e w2 ⟨rfl, hb1⟩; replace B := Lib.hid (B.out.trans (hb1.mono B.out.size)); clear hb1)
        | ((with_reducible refine (A5.out _).mono ?_); rintro e w2 ⟨rfl, hb1⟩; replace B := Lib.hid (B.out.trans (hb1.mono B.out.size)); clear hb1)
        | ((with_reducible refine (A6.out _).mono ?_); rintro e w2 ⟨rfl, hb1⟩; replace B := Lib.hid (B.out.trans (hb1.mono B.out.size)); clear hb1))
  have R4 := Lib.hid (RowS.lit4 w2 ⟨0, 0, 0, 0⟩ ⟨0, 1, 0, 26214400⟩ ⟨1, 0, 0, 65536000⟩ ⟨1, 1, 19660800, 0⟩)
  replace B := Lib.hid (B.out.alloc B.out.size (.cells (stC ⟨0, 0, 0, 0⟩ ++ (stC ⟨0, 1, 0, 26214400⟩ ++ (stC ⟨1, 0, 0, 65536000⟩ ++ stC ⟨1, 1, 19660800, 0⟩))).toArray 53))
  change Code.wp _ _ _ _ (w2.alloc (.cells (stC ⟨0, 0, 0, 0⟩ ++ (stC ⟨0, 1, 0, 26214400⟩ ++ (stC ⟨1, 0, 0, 65536000⟩ ++ stC ⟨1, 1, 19660800, 0⟩))).toArray 53))
  generalize w2.alloc (.cells (stC ⟨0, 0, 0, 0⟩ ++ (stC ⟨0, 1, 0, 26214400⟩ ++ (stC ⟨1, 0, 0, 65536000⟩ ++ stC ⟨1, 1, 19660800, 0⟩))).toArray 53) = w3 at R4 B
  generalize w2.heap.size = hz at R4
  clear A2 A4 A5 A6
  have HC : Hid (Calls Tryz.prog 30 #[.slice (some ⟨hz, 0, none⟩) 4 4] w3 (Back (.tuple #[.int .i64 0, .int .i64 1, .int .i64 0]) w3)) := by
    refine (Count_any exL _ w3 R4.out).mono ?_
    rintro e w' ⟨h, hb⟩
    rcases h with ⟨h, -⟩ | ⟨-, d, hd, he⟩
    · rw [exL_ok] at h; cases h
    · rw [isNear_only hd exL_near, exL_cnt] at he
      exact ⟨he, hb⟩
  go_upto_region 7 with (go_at_call 30; refine HC.out.mono ?_; rintro e w4 ⟨rfl, hb1⟩; replace B := Lib.hid (B.out.trans (hb1.mono B.out.size)); clear hb1)
  have R1 := Lib.hid (RowS.lit1 w4 ⟨1, 2, 0, -1⟩)
  have HP : Hid (Calls Tryz.prog 13 #[.slice (some ⟨w4.heap.size, 0, none⟩) 1 1] (w4.alloc (.cells (stC ⟨1, 2, 0, -1⟩).toArray 53)) (Back (.tuple #[.string ⟨#[121, 51, 32, 48, 32, 45, 49, 10]⟩, .int .i64 0]) (w4.alloc (.cells (stC ⟨1, 2, 0, -1⟩).toArray 53)))) := by
    refine (Print_any exP _ _ R1.out (HT.out _ (B.out.alloc B.out.size _))).mono ?_
    rintro e w' ⟨he, hb⟩
    rw [exP_ok, exP_text] at he
    exact ⟨he, hb⟩
  replace B := Lib.hid (B.out.alloc B.out.size (.cells (stC ⟨1, 2, 0, -1⟩).toArray 53))
  have H15 : Hid (∀ W, Below w.heap.size w W → Calls Tryz.prog 15 #[.string ⟨#[114, 49, 32, 48, 32, 48, 10, 114, 49, 32, 48, 32, 48, 48, 10]⟩] W (Back (.tuple #[.slice none 0 0, .int .i64 7, .int .i64 5]) W)) := fun W hW => by
    refine (Parse_mid exT (by decide) W (HT.out _ hW) (HE.out _ hW)).mono ?_
    rintro e w' ⟨h, hb⟩
    rcases h with ⟨k, hk, he⟩ | ⟨L, hL, -⟩
    · have := parC_only _ _ _ _ hk exT_bad
      injection this with this
      subst this
      exact ⟨he, hb⟩
    · have := parC_only _ _ _ _ hL exT_bad
      cases this
  clear R1 R4 HC
  go_wp2_with (first
    | (go_at_call 13; refine HP.out.mono ?_; rintro e w5 ⟨rfl, hb1⟩; replace B := Lib.hid (B.out.trans (hb1.mono B.out.size)); clear hb1)
    | (go_at_call 15; refine (H15.out _ B.out).mono ?_; rintro e w6 ⟨rfl, hb1⟩; replace B := Lib.hid (B.out.trans (hb1.mono B.out.size)); clear hb1))
  go_ret
  exact ⟨rfl, B.out⟩
end Go.Proofs.YtmhlialdbggmdaaGreatDoor
