/- Contracts: the stable sort of at most 19 numbers, by any order that goes by a key. -/
import Derived.Test.YtlfbbofcnonhdaaCk
import Derived.Test.YtlfbbofcnonhdaaDv
namespace Go.Proofs.Ytlfbbofcnonhdaa
open Go.RowKit Go.Proofs Go.Shelf
attribute [local go_sem] Oper.semAt_some

/-- A world in which nothing that w had has turned. -/
structure BW (w : World) where
 to : World
 same : Below w.heap.size w to
instance (w : World) : Nonempty (BW w) := ⟨w, Below.refl _ _⟩
theorem BW.cell {w : World} (X : BW w) (b o : Nat) (h : b < w.heap.size) : X.to.cell? ⟨b, o, none⟩ = w.cell? ⟨b, o, none⟩ := X.same.cell (p := ⟨b, o, none⟩) h
theorem wp_region_quietB {P : Program} {id : Nat} {Q : Exit → Act → World → Prop} {a : Act} {w : World} {l : List Oper} (hm : P.follows .mixedOrders = true) (hB : Region.lexB .any l.toArray = true)
  (h : wpQuiet P l.toArray (fun w' => ∃ X : BW w, w' = X.to) (fun a' => ∀ w', (∃ X : BW w, w' = X.to) → Q .normal a' w') l a) : (Code.region id l.toArray true).wp P Q a w :=
 wp_region_quiet (C := fun w' => ∃ X : BW w, w' = X.to) hm hB ⟨⟨w.drew, (Below.refl _ _).drew⟩, rfl⟩ (by simpa using h)
/-- A callee's contract, met in such a world. -/
theorem quietB {P : Program} {f : FuncId} {args : Array Value} {w : World} {X : BW w} {v : Value} (h : Calls P f args X.to fun e w' => e = .returned v ∧ Below X.to.heap.size X.to w') :
  Calls P f args X.to fun e w'' => e = .returned v ∧ ∃ Y : BW w, w'' = Y.to :=
 h.mono fun _ w'' ⟨he, hb⟩ => ⟨he, ⟨⟨w'', X.same.trans (hb.mono X.same.size)⟩, rfl⟩⟩
theorem quietS {P : Program} {f : FuncId} {args : Array Value} {w : World} {X : BW w} {v : Value} (h : Calls P f args X.to fun e w' => e = .returned v ∧ X.to = w') :
  Calls P f args X.to fun e w'' => e = .returned v ∧ ∃ Y : BW w, w'' = Y.to :=
 h.mono fun _ _ ⟨he, hb⟩ => ⟨he, ⟨X, hb.symm⟩⟩

/-- A row of numbers, that may be written. -/
def RowI (w : World) (b : Nat) (d : List Int) : Prop := ∀ j (h : j < d.length), w.cell? ⟨b, j, none⟩ = some (.int .i64 (d[j]'h)) ∧ w.frozen? ⟨b, j, none⟩ = false
theorem RowI.up {w w' : World} {b : Nat} {d : List Int} (h : RowI w b d) (hb : Below w.heap.size w w') : RowI w' b d := fun j hj =>
 ⟨upc (h j hj).1 hb, (hb.frozen (p := ⟨b, j, none⟩) (lt_cell (h j hj).1)).trans (h j hj).2⟩
theorem RowI.set {w : World} {b : Nat} {d : List Int} (h : RowI w b d) (k : Nat) (v : Int) (hk : k < d.length) : RowI (w.setCell ⟨b, k, none⟩ (.int .i64 v)) b (d.set k v) := by
 intro j hj
 have hj' : j < d.length := by rwa [List.length_set] at hj
 refine ⟨?_, (World.frozen?_setCell _ _ _ _).trans (h j hj').2⟩
 by_cases e : j = k
 ·subst e
  rw [World.cell?_setCell_same _ _ _ (h j hj').1, List.getElem_set_self]
 ·rw [World.cell?_setCell_other _ _ _ _ (by first | (simp; done) | (simp; omega)), (h j hj').1, List.getElem_set_ne (fun h => e h.symm)]
/-- Nothing that w0 had has turned; and of what w had, block b alone. -/
def Kx (w0 : World) (b : Nat) (w W : World) : Prop := Below w0.heap.size w0 W ∧ w.heap.size ≤ W.heap.size ∧ ∀ c, c < w.heap.size → c ≠ b → W.heap[c]? = w.heap[c]?
theorem Kx.up {w0 w W W' : World} {b : Nat} (h : Kx w0 b w W) (hb : Below W.heap.size W W') : Kx w0 b w W' :=
 ⟨h.1.trans (hb.mono h.1.size), Nat.le_trans h.2.1 hb.size, fun c hc hne => (hb.block c (by have := h.2.1; omega)).trans (h.2.2 c hc hne)⟩
theorem Kx.set {w0 w W : World} {b k : Nat} (h : Kx w0 b w W) (hb : w0.heap.size ≤ b) (v : Value) : Kx w0 b w (W.setCell ⟨b, k, none⟩ v) :=
 ⟨h.1.setCell (p := ⟨b, k, none⟩) hb _, by simpa using h.2.1, fun c hc hne => (Below.heap_setCell _ _ _ _ hne).trans (h.2.2 c hc hne)⟩

theorem Kx.drew {w0 w W : World} {b : Nat} (h : Kx w0 b w W) (n : Nat) : Kx w0 b w (W.drewN n) := ⟨below_drewN h.1 n, h.2.1, h.2.2⟩

/-- By the key, and where it is the same by the number. -/
def lx (key : Int → Int) (a b : Int) : Prop := key a < key b ∨ (key a = key b ∧ a < b)
theorem lx_trans {key : Int → Int} {a b c : Int} (h : lx key a b) (h' : lx key b c) : lx key a c := by unfold lx at *; omega
/-- What an order between teams returns: below 0, if the first one's key is less; 0, if it is the same. -/
def CvK (cv : Int → Int → Int) (key : Int → Int) (dom : Int → Prop) : Prop := ∀ a b, dom a → dom b → (cv a b < 0 ↔ key a < key b) ∧ (cv a b = 0 ↔ key a = key b)
/-- The contract of an order. -/
def CmpC (f : FuncId) (first caps : Array Value) (cv : Int → Int → Int) (dom : Int → Prop) (w0 : World) : Prop :=
 ∀ a b, dom a → dom b → ∀ (xs : Array Value) (W : World), xs = first ++ #[.int .i64 a, .int .i64 b] ++ caps → Below w0.heap.size w0 W → Calls Try.prog f xs W (Back (.int .i64 (cv a b)) W)
theorem swap_list {P R : List Int} {p x : Int} : ((P ++ p :: x :: R).set (P.length + 1) p).set P.length x = P ++ x :: p :: R := by
 rw [List.set_append_right _ _ (by omega)]
 have e : P.length + 1 - P.length = 1 := by omega
 rw [e]
 show (P ++ p :: p :: R).set P.length x = _
 rw [List.set_append_right _ _ (Nat.le_refl _), Nat.sub_self]
 rfl
theorem ins_sorted {key : Int → Int} {P Q : List Int} {x : Int} (hS : (P ++ Q).Pairwise (lx key)) (hQ : ∀ y ∈ Q, key x < key y) (hP : ∀ p, P.getLast? = some p → lx key p x) : (P ++ x :: Q).Pairwise (lx key) := by
 rw [List.pairwise_append] at hS ⊢
 obtain ⟨h1, h2, h3⟩ := hS
 refine ⟨h1, List.pairwise_cons.2 ⟨fun y hy => .inl (hQ y hy), h2⟩, ?_⟩
 have hPx : ∀ a ∈ P, lx key a x := by
  intro a ha
  rcases List.eq_nil_or_concat P with rfl | ⟨P', p, rfl⟩
  ·cases ha
  ·have hp := hP p (by simp)
   rw [List.concat_eq_append, List.mem_append] at ha
   rcases ha with ha | ha
   ·rw [List.concat_eq_append, List.pairwise_append] at h1
    exact lx_trans (h1.2.2 a ha p (by simp)) hp
   ·rw [List.mem_singleton] at ha; subst ha; exact hp
 intro a ha b hb
 rcases List.mem_cons.1 hb with rfl | hb
 ·exact hPx a ha
 ·exact h3 a ha b hb

set_option maxHeartbeats 4000000 in
theorem insertion107 (f : FuncId) (first caps : Array Value) (cv : Int → Int → Int) (key : Int → Int) (dom : Int → Prop) (d : List Int) (b cap : Nat) (w0 w : World) (hf : ∀ args w, (callFunc f args).run Try.prog w = .ok (.enter f args) w)
  (hcl : CmpC f first caps cv dom w0) (hcv : CvK cv key dom) (hd : ∀ x ∈ d, dom x) (hinc : d.Pairwise (· < ·)) (hb : w0.heap.size ≤ b) (h0 : Below w0.heap.size w0 w) (hI : RowI w b d) (hdl : d.length ≤ 20) (hcap : d.length ≤ cap) :
  Calls Try.prog 107 #[.slice (some ⟨b, 0, none⟩) d.length cap, .int .i64 0, .int .i64 d.length, .func (.func f) first caps] w fun e w' =>
   (∃ r, e = .returned r) ∧ Kx w0 b w w' ∧ ∃ d', d'.Perm d ∧ d'.Pairwise (lx key) ∧ RowI w' b d' := by
 have HCL := Lib.hid hcl
 have HCV := Lib.hid hcv
 have HD := Lib.hid hd
 have HINC := Lib.hid hinc
 clear hcl hcv hd hinc
 go_enter Try.func107, Try.ntmps107
 go_wp2_with fail
 go_loopw [8] (fun iv wr => ∃ (i : Nat) (S : List Int), iv = .int .i64 (i : Nat) ∧ 1 ≤ i ∧ (i ≤ d.length ∨ d.length = 0) ∧ Hid (S.Perm (d.take i)) ∧ Hid (S.Pairwise (lx key)) ∧ Hid (RowI wr b (S ++ d.drop i)) ∧ Hid (Kx w0 b w wr)) (fun iv _ => d.length - (intOf iv).toNat)
 case atStart =>
  refine ⟨1, d.take 1, by go_num, Nat.le_refl _, by omega, List.Perm.refl _, ?_, ?_, ⟨h0, Nat.le_refl _, fun _ _ _ => rfl⟩⟩
  ·show List.Pairwise _ _
   cases d with
   | nil => simp
   | cons a d => simp
  ·show RowI _ _ _
   rw [List.take_append_drop]; exact hI
 case round =>
  obtain ⟨i, S, rfl, hi1, hi2, hS1, hS2, hS3, hS4⟩ := hrel
  have HS1 := Lib.hid hS1.out
  have HS2 := Lib.hid hS2.out
  clear hS1 hS2
  by_cases hlt : i < d.length
  ·have hlt' : (i : Int) < (d.length : Int) := by omega
   obtain ⟨x, hx⟩ : ∃ x, d[i]'hlt = x := ⟨_, rfl⟩
   have hdr : d.drop i = x :: d.drop (i + 1) := by rw [List.drop_eq_getElem_cons hlt, hx]
   have hlen : S.length = i := by rw [HS1.out.length_eq, List.length_take]; omega
   have hxl : Hid (dom x) := HD.out x (by rw [← hx]; exact List.getElem_mem _)
   have hgt : Hid (∀ y ∈ S, y < x ∧ dom y) := by
    intro y hy
    have hy2 := HS1.out.mem_iff.1 hy
    refine ⟨?_, HD.out y (List.mem_of_mem_take hy2)⟩
    have := HINC.out
    rw [← List.take_append_drop i d, List.pairwise_append] at this
    exact this.2.2 y hy2 x (by rw [hdr]; simp)
   have htk : d.take (i + 1) = d.take i ++ [x] := by rw [List.take_succ_eq_append_getElem hlt, hx]
   have HTK := Lib.hid htk
   have HR0 : Hid (RowI wr b (S ++ x :: d.drop (i + 1))) := by have := hS3.out; rwa [hdr] at this
   have HK0 := Lib.hid hS4.out
   have HLEN := Lib.hid hlen
   obtain ⟨T, hT⟩ : ∃ T, d.drop (i + 1) = T := ⟨_, rfl⟩
   have HT := Lib.hid hT
   rw [hT] at HR0
   clear hx hdr htk hS3 hS4 hT hlen
   go_wp2_with fail
   go_loopw [9] (fun jv wr => ∃ (P Q : List Int), jv = .int .i64 (P.length : Nat) ∧ P.length ≤ i ∧ Hid (P ++ Q = S) ∧ Hid (∀ y ∈ Q, key x < key y) ∧ Hid (RowI wr b (P ++ x :: (Q ++ T))) ∧ Hid (Kx w0 b w wr)) (fun jv _ => (intOf jv).toNat)
   case atStart => exact ⟨S, [], by rw [HLEN.out], by rw [HLEN.out]; omega, by show _ = _; simp, fun y hy => by simp at hy, HR0, HK0⟩
   case round =>
    obtain ⟨P, Q, rfl, hPi, hPQ, hQ, hR, hK⟩ := hrel
    have HPQ := Lib.hid hPQ.out
    have HQ := Lib.hid hQ.out
    have HR := Lib.hid hR.out
    have HK := Lib.hid hK.out
    clear hPQ hQ hR hK HR0 HK0
    have fin : (∀ q, P.getLast? = some q → lx key q x) → Hid ((P ++ x :: Q).Perm (d.take (i + 1))) ∧ Hid ((P ++ x :: Q).Pairwise (lx key)) := by
     intro h
     refine ⟨?_, ins_sorted (by rw [HPQ.out]; exact HS2.out) HQ.out h⟩
     show List.Perm _ _
     rw [HTK.out]
     refine List.perm_middle.trans ?_
     rw [HPQ.out]
     exact (HS1.out.cons x).trans (List.perm_append_singleton _ _).symm
    rcases List.eq_nil_or_concat P with rfl | ⟨P', p, rfl⟩
    ·obtain ⟨f1, f2⟩ := fin (fun q hq => by simp at hq)
     clear fin
     go_wp2_with fail
     go_quiet (fail)
     go_wp2_with fail
     go_roundw
     case rel =>
      refine ⟨i + 1, x :: Q, by go_num, by omega, by omega, f1, f2, ?_, HK.out.drew _⟩
      show RowI _ _ _
      rw [HT.out]; exact HR.out
     case measure => simp [intOf]; omega
    ·rw [List.concat_eq_append] at *
     have hlen2 : (P' ++ [p]).length = P'.length + 1 := by simp
     rw [hlen2] at hPi ⊢
     obtain ⟨n, hn⟩ : ∃ n, P'.length = n := ⟨_, rfl⟩
     have hpS : Hid (p < x ∧ dom p) := hgt.out p (by rw [← HPQ.out]; simp)
     have HRn : Hid (RowI wr b (P' ++ p :: x :: (Q ++ T))) := by
      have := HR.out
      rwa [List.append_assoc] at this
     have g0 : (P' ++ p :: x :: (Q ++ T))[n]'(by simp; omega) = p := by
      rw [List.getElem_append_right (by omega)]; simp [hn]
     have g1 : (P' ++ p :: x :: (Q ++ T))[n + 1]'(by simp; omega) = x := by
      rw [List.getElem_append_right (by omega)]; simp [hn]
     have k0 := HRn.out n (by simp; omega)
     have k1 := HRn.out (n + 1) (by simp; omega)
     rw [g0] at k0
     rw [g1] at k1
     obtain ⟨k0, e0⟩ := k0
     obtain ⟨k1, e1⟩ := k1
     have X0 : ∀ X : BW wr, X.to.cell? ⟨b, n, none⟩ = some (.int .i64 p) := fun X => upc k0 X.same
     have X1 : ∀ X : BW wr, X.to.cell? ⟨b, n + 1, none⟩ = some (.int .i64 x) := fun X => upc k1 X.same
     have HC1 : Hid (∀ (xs : Array Value) (X : BW wr), xs = first ++ #[.int .i64 x, .int .i64 p] ++ caps → Calls Try.prog f xs X.to (Back (.int .i64 (cv x p)) X.to)) := fun xs X hx => HCL.out x p hxl.out hpS.out.2 xs X.to hx (HK.out.1.trans (X.same.mono HK.out.1.size))
     have HXP := Lib.hid (HCV.out x p hxl.out hpS.out.2)
     obtain ⟨m, hm⟩ : ∃ m, cv x p = m := ⟨_, rfl⟩
     rw [hm] at HC1 HXP
     clear hm
     have hn1 : (n : Int) + 1 < (d.length : Int) := by rw [hn] at hPi; omega
     have HNN := Lib.hid hn
     rw [hn] at hPi ⊢
     clear g0 g1 hlen2 hn
     by_cases hc : key x < key p
     ·have e : m < 0 := HXP.out.1.2 hc
      have HCC := Lib.hid hc
      clear fin hc
      go_wp2_with fail
      refine wp_region_quietB (by kernel_rfl) (by kernel_rfl) ?_
      repeat (go_big_quiet_step ((exact quietB (HC1.out _ _ (by simp)))))
      refine wpQuiet_nil ?_
      rintro wy ⟨⟨wy', hby⟩, rfl⟩
      have HR2 := Lib.hid (HRn.out.up hby)
      have HK2 := Lib.hid (HK.out.up hby)
      have r0 : wy.cell? ⟨b, n, none⟩ = some (.int .i64 p) := upc k0 hby
      have r1 : wy.cell? ⟨b, n + 1, none⟩ = some (.int .i64 x) := upc k1 hby
      have s0 : wy.frozen? ⟨b, n, none⟩ = false := (hby.frozen (p := ⟨b, n, none⟩) (lt_cell k0)).trans e0
      have s1 : wy.frozen? ⟨b, n + 1, none⟩ = false := (hby.frozen (p := ⟨b, n + 1, none⟩) (lt_cell k1)).trans e1
      have z0 : (wy.setCell ⟨b, n + 1, none⟩ (.int .i64 p)).drew.cell? ⟨b, n, none⟩ = some (.int .i64 p) := (World.cell?_setCell_other _ _ _ _ (by simp)).trans r0
      have y0 : (wy.setCell ⟨b, n + 1, none⟩ (.int .i64 p)).drew.frozen? ⟨b, n, none⟩ = false := (World.frozen?_setCell _ _ _ _).trans s0
      have r0' : wy.drew.cell? ⟨b, n, none⟩ = some (.int .i64 p) := r0
      have r1' : wy.drew.cell? ⟨b, n + 1, none⟩ = some (.int .i64 x) := r1
      have s0' : wy.drew.frozen? ⟨b, n, none⟩ = false := s0
      have s1' : wy.drew.frozen? ⟨b, n + 1, none⟩ = false := s1
      clear X0 X1 HC1 k0 k1 e0 e1
      go_wp2_with fail
      go_region
      have hsw := swap_list (P := P') (R := Q ++ T) (p := p) (x := x)
      rw [HNN.out] at hsw
      have HSW := Lib.hid hsw
      have HQN : Hid (∀ y ∈ p :: Q, key x < key y) := by
       intro y hy
       rcases List.mem_cons.1 hy with rfl | hy
       ·exact HCC.out
       ·exact HQ.out y hy
      have HPN : Hid (P' ++ p :: Q = S) := by show _ = _; rw [← HPQ.out]; simp
      have HL : Hid (n + 1 < (P' ++ p :: x :: (Q ++ T)).length) := by show _ < _; rw [List.length_append, HNN.out]; simp
      clear hsw z0 y0 r0 r1 s0 s1 r0' r1' s0' s1'
      all_goals
       try go_wp2_with fail
       go_roundw
       case rel =>
        refine ⟨P', p :: Q, by rw [HNN.out], by rw [HNN.out]; omega, HPN, HQN, ?_, ((HK2.out.set hb _).set hb _).drew 1⟩
        have h1 := (HR2.out.set (n + 1) p HL.out).set n x (by rw [List.length_set]; have := HL.out; omega)
        rw [HSW.out] at h1
        exact h1
       case measure => simp [intOf]
     ·have e : 0 ≤ m := by have := HXP.out.1; omega
      obtain ⟨f1, f2⟩ := fin (fun q hq => by
       rw [List.getLast?_append] at hq
       simp at hq; subst hq
       have := hpS.out.1
       unfold lx; omega)
      clear fin hc
      go_wp2_with fail
      refine wp_region_quietB (by kernel_rfl) (by kernel_rfl) ?_
      repeat (go_big_quiet_step ((exact quietB (HC1.out _ _ (by simp)))))
      refine wpQuiet_nil ?_
      rintro _ ⟨⟨wy, hby⟩, rfl⟩
      go_wp2_with fail
      go_roundw
      case rel =>
       refine ⟨i + 1, (P' ++ [p]) ++ x :: Q, by go_num, by omega, by omega, f1, f2, ?_, HK.out.up hby⟩
       show RowI _ _ _
       have := HR.out.up hby
       rw [HT.out, List.append_assoc]
       simpa using this
      case measure => simp [intOf]; omega
  ·have hS3' := Lib.hid hS3.out
   have hS4' := Lib.hid hS4.out
   clear hS3 hS4
   go_wp2_with fail
   go_end0
   refine ⟨⟨_, rfl⟩, hS4'.out, S, ?_, HS2.out, ?_⟩
   ·have := HS1.out
    rwa [List.take_of_length_le (by omega)] at this
   ·have := hS3'.out
    rwa [List.drop_eq_nil_of_le (by omega), List.append_nil] at this
end Go.Proofs.Ytlfbbofcnonhdaa
