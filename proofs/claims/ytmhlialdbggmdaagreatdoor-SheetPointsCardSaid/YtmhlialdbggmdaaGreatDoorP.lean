/- Contract: the insertion sort of nearest's indices. -/
import Derived.Test.YtmhlialdbggmdaaGreatDoorO
import Derived.Maps.AppendAt
import Derived.Deep.OwnRows
namespace Go.Proofs.YtmhlialdbggmdaaGreatDoor
open Go.RowKit Go.Proofs Go.Shelf

abbrev pv (d : Nat) : Value := .int .i64 (d : Nat)
/-- A row of numbers, that may be written. -/
def RowI (w : World) (b : Nat) (d : List Nat) : Prop := ∀ j (h : j < d.length), w.cell? ⟨b, j, none⟩ = some (pv (d[j]'h)) ∧ w.frozen? ⟨b, j, none⟩ = false
theorem RowI.up {w w' : World} {b : Nat} {d : List Nat} (h : RowI w b d) (hb : Below w.heap.size w w') : RowI w' b d := fun j hj =>
  ⟨upc (h j hj).1 hb, (hb.frozen (p := ⟨b, j, none⟩) (lt_cell (h j hj).1)).trans (h j hj).2⟩
theorem RowI.set {w : World} {b : Nat} {d : List Nat} (h : RowI w b d) (k v : Nat) (hk : k < d.length) : RowI (w.setCell ⟨b, k, none⟩ (pv v)) b (d.set k v) := by
  intro j hj
  have hj' : j < d.length := by rwa [List.length_set] at hj
  refine ⟨?_, (World.frozen?_setCell _ _ _ _).trans (h j hj').2⟩
  by_cases e : j = k
  · subst e
    rw [World.cell?_setCell_same _ _ _ (h j hj').1, List.getElem_set_self]
  · rw [World.cell?_setCell_other _ _ _ _ (by first | (simp; done) | (simp; omega)), (h j hj').1, List.getElem_set_ne (fun h => e h.symm)]
/-- Nothing that w0 had has turned; and of what w had, block b alone. -/
def Kx (w0 : World) (b : Nat) (w W : World) : Prop := Below w0.heap.size w0 W ∧ w.heap.size ≤ W.heap.size ∧ ∀ c, c < w.heap.size → c ≠ b → W.heap[c]? = w.heap[c]?
theorem Kx.up {w0 w W W' : World} {b : Nat} (h : Kx w0 b w W) (hb : Below W.heap.size W W') : Kx w0 b w W' :=
  ⟨h.1.trans (hb.mono h.1.size), Nat.le_trans h.2.1 hb.size, fun c hc hne => (hb.block c (by have := h.2.1; omega)).trans (h.2.2 c hc hne)⟩
theorem Kx.set {w0 w W : World} {b k : Nat} (h : Kx w0 b w W) (hb : w0.heap.size ≤ b) (v : Value) : Kx w0 b w (W.setCell ⟨b, k, none⟩ v) :=
  ⟨h.1.setCell (p := ⟨b, k, none⟩) hb _, by simpa using h.2.1, fun c hc hne => (Below.heap_setCell _ _ _ _ hne).trans (h.2.2 c hc hne)⟩

theorem Kx.drew {w0 w W : World} {b : Nat} (h : Kx w0 b w W) (n : Nat) : Kx w0 b w (W.drewN n) := ⟨below_drewN h.1 n, h.2.1, h.2.2⟩

/-- Nearer, or as near and earlier. -/
def lx (key : Nat → Int) (a b : Nat) : Prop := key a < key b ∨ (key a = key b ∧ a < b)
theorem lx_trans {key : Nat → Int} {a b c : Nat} (h : lx key a b) (h' : lx key b c) : lx key a c := by unfold lx at *; omega
theorem swap_list {P R : List Nat} {p x : Nat} : ((P ++ p :: x :: R).set (P.length + 1) p).set P.length x = P ++ x :: p :: R := by
  rw [List.set_append_right _ _ (by omega)]
  have e : P.length + 1 - P.length = 1 := by omega
  rw [e]
  show (P ++ p :: p :: R).set P.length x = _
  rw [List.set_append_right _ _ (Nat.le_refl _), Nat.sub_self]
  rfl
theorem ins_sorted {key : Nat → Int} {P Q : List Nat} {x : Nat} (hS : (P ++ Q).Pairwise (lx key)) (hQ : ∀ y ∈ Q, key x < key y) (hP : ∀ p, P.getLast? = some p → lx key p x) : (P ++ x :: Q).Pairwise (lx key) := by
  rw [List.pairwise_append] at hS ⊢
  obtain ⟨h1, h2, h3⟩ := hS
  refine ⟨h1, List.pairwise_cons.2 ⟨fun y hy => .inl (hQ y hy), h2⟩, ?_⟩
  have hPx : ∀ a ∈ P, lx key a x := by
    intro a ha
    rcases List.eq_nil_or_concat P with rfl | ⟨P', p, rfl⟩
    · cases ha
    · have hp := hP p (by simp)
      rw [List.concat_eq_append, List.mem_append] at ha
      rcases ha with ha | ha
      · rw [List.concat_eq_append, List.pairwise_append] at h1
        exact lx_trans (h1.2.2 a ha p (by simp)) hp
      · rw [List.mem_singleton] at ha; subst ha; exact hp
  intro a ha b hb
  rcases List.mem_cons.1 hb with rfl | hb
  · exact hPx a ha
  · exact h3 a ha b hb

set_option maxHeartbeats 4000000 in
theorem insertion_any (pl : Nat) (l : List St) (v : Value) (d : List Nat) (b cap : Nat) (w0 w : World) (hv : w0.cell? ⟨pl, 0, none⟩ = some v) (hrow : RowS w0 v l) (hp : ∀ j (h : j < l.length), Play (l[j]'h).x (l[j]'h).y)
    (hd : ∀ x ∈ d, x < l.length) (hinc : d.Pairwise (· < ·)) (hb : w0.heap.size ≤ b) (h0 : Below w0.heap.size w0 w) (hI : RowI w b d) (hdl : d.length ≤ 20) (hcap : d.length ≤ cap) :
    Calls Tryz.prog 113 #[.slice (some ⟨b, 0, none⟩) d.length cap, .int .i64 0, .int .i64 d.length, .func (.func 84) #[] #[.pointer (some ⟨pl, 0, none⟩)]] w fun e w' =>
      (∃ r, e = .returned r) ∧ Kx w0 b w w' ∧ ∃ d', d'.Perm d ∧ d'.Pairwise (lx (sqAt l)) ∧ RowI w' b d' := by
  have HCL : Hid (∀ (i k : Nat) (W : World), i < l.length → k < l.length → Below w0.heap.size w0 W → Calls Tryz.prog 84 #[.int .i64 i, .int .i64 k, .pointer (some ⟨pl, 0, none⟩)] W (Back (.int .i64 (cmp3 (sqAt l i) (sqAt l k))) W)) :=
    fun i k W hi hk hW => cl84 pl l v i k W (upc hv hW) (hrow.up hW) hi hk hp
  have HD := Lib.hid hd
  have HINC := Lib.hid hinc
  clear hv hrow hp hd hinc
  go_enter Tryz.func113, Tryz.ntmps113
  go_wp2_with fail
  go_loopw [8] (fun iv wr => ∃ (i : Nat) (S : List Nat), iv = .int .i64 (i : Nat) ∧ 1 ≤ i ∧ (i ≤ d.length ∨ d.length = 0) ∧ Hid (S.Perm (d.take i)) ∧ Hid (S.Pairwise (lx (sqAt l))) ∧ Hid (RowI wr b (S ++ d.drop i)) ∧ Hid (Kx w0 b w wr)) (fun iv _ => d.length - (intOf iv).toNat)
  case atStart =>
    refine ⟨1, d.take 1, by go_num, Nat.le_refl _, by omega, List.Perm.refl _, ?_, ?_, ⟨h0, Nat.le_refl _, fun _ _ _ => rfl⟩⟩
    · show List.Pairwise _ _
      cases d with
      | nil => simp
      | cons a d => simp
    · show RowI _ _ _
      rw [List.take_append_drop]; exact hI
  case round =>
    obtain ⟨i, S, rfl, hi1, hi2, hS1, hS2, hS3, hS4⟩ := hrel
    have HS1 := Lib.hid hS1.out
    have HS2 := Lib.hid hS2.out
    clear hS1 hS2
    by_cases hlt : i < d.length
    · have hlt' : (i : Int) < (d.length : Int) := by omega
      obtain ⟨x, hx⟩ : ∃ x, d[i]'hlt = x := ⟨_, rfl⟩
      have hdr : d.drop i = x :: d.drop (i + 1) := by rw [List.drop_eq_getElem_cons hlt, hx]
      have hlen : S.length = i := by rw [HS1.out.length_eq, List.length_take]; omega
      have hxl : x < l.length := HD.out x (by rw [← hx]; exact List.getElem_mem _)
      have hgt : Hid (∀ y ∈ S, y < x ∧ y < l.length) := by
        intro y hy
        have hy2 := HS1.out.mem_iff.1 hy
        refine ⟨?_, HD.out y (List.mem_of_mem_take hy2)⟩
        have := HINC.out
        rw [← List.take_append_drop i d, List.pairwise_append] at this
        exact this.2.2 y hy2 x (by rw [hdr]; simp)
      have htk : d.take (i + 1) = d.take i ++ [x] := by rw [List.take_succ_eq_append_getElem hlt, hx]
      have HTK := Lib.hid htk
      have HR0 : Hid (RowI wr b (S ++ x :: d.drop (i + 1))) := by have := hS3.out; rwa [hdr] at this
      have HK0 := Lib.hid hS4.out
      have HLEN := Lib.hid hlen
      obtain ⟨T, hT⟩ : ∃ T, d.drop (i + 1) = T := ⟨_, rfl⟩
      have HT := Lib.hid hT
      rw [hT] at HR0
      clear hx hdr htk hS3 hS4 hT hlen
      go_wp2_with fail
      go_loopw [9] (fun jv wr => ∃ (P Q : List Nat), jv = .int .i64 (P.length : Nat) ∧ P.length ≤ i ∧ Hid (P ++ Q = S) ∧ Hid (∀ y ∈ Q, sqAt l x < sqAt l y) ∧ Hid (RowI wr b (P ++ x :: (Q ++ T))) ∧ Hid (Kx w0 b w wr)) (fun jv _ => (intOf jv).toNat)
      case atStart => exact ⟨S, [], by rw [HLEN.out], by rw [HLEN.out]; omega, by show _ = _; simp, fun y hy => by simp at hy, HR0, HK0⟩
      case round =>
        obtain ⟨P, Q, rfl, hPi, hPQ, hQ, hR, hK⟩ := hrel
        have HPQ := Lib.hid hPQ.out
        have HQ := Lib.hid hQ.out
        have HR := Lib.hid hR.out
        have HK := Lib.hid hK.out
        clear hPQ hQ hR hK HR0 HK0
        have fin : (∀ q, P.getLast? = some q → lx (sqAt l) q x) → Hid ((P ++ x :: Q).Perm (d.take (i + 1))) ∧ Hid ((P ++ x :: Q).Pairwise (lx (sqAt l))) := by
          intro h
          refine ⟨?_, ins_sorted (by rw [HPQ.out]; exact HS2.out) HQ.out h⟩
          show List.Perm _ _
          rw [HTK.out]
          refine List.perm_middle.trans ?_
          rw [HPQ.out]
          exact (HS1.out.cons x).trans (List.perm_append_singleton _ _).symm
        rcases List.eq_nil_or_concat P with rfl | ⟨P', p, rfl⟩
        · obtain ⟨f1, f2⟩ := fin (fun q hq => by simp at hq)
          clear fin
          go_wp2_with fail
          go_quiet (fail)
          go_wp2_with fail
          go_roundw
          case rel =>
            refine ⟨i + 1, x :: Q, by go_num, by omega, by omega, f1, f2, ?_, HK.out.drew _⟩
            show RowI _ _ _
            rw [HT.out]; exact HR.out
          case measure => simp [intOf]; omega
        · rw [List.concat_eq_append] at *
          have hlen2 : (P' ++ [p]).length = P'.length + 1 := by simp
          rw [hlen2] at hPi ⊢
          obtain ⟨n, hn⟩ : ∃ n, P'.length = n := ⟨_, rfl⟩
          have hpS : Hid (p < x ∧ p < l.length) := hgt.out p (by rw [← HPQ.out]; simp)
          have HRn : Hid (RowI wr b (P' ++ p :: x :: (Q ++ T))) := by
            have := HR.out
            rwa [List.append_assoc] at this
          have g0 : (P' ++ p :: x :: (Q ++ T))[n]'(by simp; omega) = p := by
            rw [List.getElem_append_right (by omega)]; simp [hn]
          have g1 : (P' ++ p :: x :: (Q ++ T))[n + 1]'(by simp; omega) = x := by
            rw [List.getElem_append_right (by omega)]; simp [hn]
          have k0 := HRn.out n (by simp; omega)
          have k1 := HRn.out (n + 1) (by simp; omega)
          rw [g0] at k0
          rw [g1] at k1
          obtain ⟨k0, e0⟩ := k0
          obtain ⟨k1, e1⟩ := k1
          have X0 : ∀ X : BW wr, X.to.cell? ⟨b, n, none⟩ = some (.int .i64 (p : Nat)) := fun X => upc k0 X.same
          have X1 : ∀ X : BW wr, X.to.cell? ⟨b, n + 1, none⟩ = some (.int .i64 (x : Nat)) := fun X => upc k1 X.same
          have HC1 : Hid (∀ X : BW wr, Calls Tryz.prog 84 #[.int .i64 x, .int .i64 p, .pointer (some ⟨pl, 0, none⟩)] X.to (Back (.int .i64 (cmp3 (sqAt l x) (sqAt l p))) X.to)) := fun X => HCL.out x p X.to hxl hpS.out.2 (HK.out.1.trans (X.same.mono HK.out.1.size))
          have hn1 : (n : Int) + 1 < (d.length : Int) := by rw [hn] at hPi; omega
          have HNN := Lib.hid hn
          rw [hn] at hPi ⊢
          clear g0 g1 hlen2 hn
          by_cases hc : sqAt l x < sqAt l p
          · have e : cmp3 (sqAt l x) (sqAt l p) = -1 := by unfold cmp3; rw [if_pos hc]
            rw [e] at HC1
            have HCC := Lib.hid hc
            clear fin e hc
            go_wp2_with fail
            refine wp_region_quietB (by kernel_rfl) (by kernel_rfl) ?_
            repeat (go_big_quiet_step ((go_at_call 84; exact quietB (HC1.out _))))
            refine wpQuiet_nil ?_
            rintro wy ⟨⟨wy', hby⟩, rfl⟩
            have HR2 := Lib.hid (HRn.out.up hby)
            have HK2 := Lib.hid (HK.out.up hby)
            have r0 : wy.cell? ⟨b, n, none⟩ = some (.int .i64 (p : Nat)) := upc k0 hby
            have r1 : wy.cell? ⟨b, n + 1, none⟩ = some (.int .i64 (x : Nat)) := upc k1 hby
            have s0 : wy.frozen? ⟨b, n, none⟩ = false := (hby.frozen (p := ⟨b, n, none⟩) (lt_cell k0)).trans e0
            have s1 : wy.frozen? ⟨b, n + 1, none⟩ = false := (hby.frozen (p := ⟨b, n + 1, none⟩) (lt_cell k1)).trans e1
            have z0 : (wy.setCell ⟨b, n + 1, none⟩ (.int .i64 (p : Nat))).drew.cell? ⟨b, n, none⟩ = some (.int .i64 (p : Nat)) := (World.cell?_setCell_other _ _ _ _ (by simp)).trans r0
            have y0 : (wy.setCell ⟨b, n + 1, none⟩ (.int .i64 (p : Nat))).drew.frozen? ⟨b, n, none⟩ = false := (World.frozen?_setCell _ _ _ _).trans s0
            have r0' : wy.drew.cell? ⟨b, n, none⟩ = some (.int .i64 (p : Nat)) := r0
            have r1' : wy.drew.cell? ⟨b, n + 1, none⟩ = some (.int .i64 (x : Nat)) := r1
            have s0' : wy.drew.frozen? ⟨b, n, none⟩ = false := s0
            have s1' : wy.drew.frozen? ⟨b, n + 1, none⟩ = false := s1
            clear X0 X1 HC1 k0 k1 e0 e1
            go_wp2_with fail
            go_region
            have hsw := swap_list (P := P') (R := Q ++ T) (p := p) (x := x)
            rw [HNN.out] at hsw
            have HSW := Lib.hid hsw
            have HQN : Hid (∀ y ∈ p :: Q, sqAt l x < sqAt l y) := by
              intro y hy
              rcases List.mem_cons.1 hy with rfl | hy
              · exact HCC.out
              · exact HQ.out y hy
            have HPN : Hid (P' ++ p :: Q = S) := by show _ = _; rw [← HPQ.out]; simp
            have HL : Hid (n + 1 < (P' ++ p :: x :: (Q ++ T)).length) := by show _ < _; rw [List.length_append, HNN.out]; simp
            clear hsw z0 y0 r0 r1 s0 s1 r0' r1' s0' s1'
            all_goals
              try go_wp2_with fail
              go_roundw
              case rel =>
                refine ⟨P', p :: Q, by rw [HNN.out], by rw [HNN.out]; omega, HPN, HQN, ?_, ((HK2.out.set hb _).set hb _).drew 1⟩
                have h1 := (HR2.out.set (n + 1) p HL.out).set n x (by rw [List.length_set]; have := HL.out; omega)
                rw [HSW.out] at h1
                exact h1
              case measure => simp [intOf]
          · have e : 0 ≤ cmp3 (sqAt l x) (sqAt l p) := by unfold cmp3; rw [if_neg hc]; split <;> omega
            obtain ⟨m, hm⟩ : ∃ m, cmp3 (sqAt l x) (sqAt l p) = m := ⟨_, rfl⟩
            rw [hm] at HC1 e
            obtain ⟨f1, f2⟩ := fin (fun q hq => by
              rw [List.getLast?_append] at hq
              simp at hq; subst hq
              have := hpS.out.1
              unfold lx; omega)
            clear fin hc hm
            go_wp2_with fail
            refine wp_region_quietB (by kernel_rfl) (by kernel_rfl) ?_
            repeat (go_big_quiet_step ((go_at_call 84; exact quietB (HC1.out _))))
            refine wpQuiet_nil ?_
            rintro _ ⟨⟨wy, hby⟩, rfl⟩
            go_wp2_with fail
            go_roundw
            case rel =>
              refine ⟨i + 1, (P' ++ [p]) ++ x :: Q, by go_num, by omega, by omega, f1, f2, ?_, HK.out.up hby⟩
              show RowI _ _ _
              have := HR.out.up hby
              rw [HT.out, List.append_assoc]
              simpa using this
            case measure => simp [intOf]; omega
    · have hS3' := Lib.hid hS3.out
      have hS4' := Lib.hid hS4.out
      clear hS3 hS4
      go_wp2_with fail
      go_end0
      refine ⟨⟨_, rfl⟩, hS4'.out, S, ?_, HS2.out, ?_⟩
      · have := HS1.out
        rwa [List.take_of_length_le (by omega)] at this
      · have := hS3'.out
        rwa [List.drop_eq_nil_of_le (by omega), List.append_nil] at this
end Go.Proofs.YtmhlialdbggmdaaGreatDoor
