import Derived.Test.YtjkolebffbeeeaaGreatDoorG2
/- The walk by live slots: slices of slices, calls that write items, appends of whole slices, parameters. Over any program. -/
namespace Go.Proofs.YtjkolebffbeeeaaGreatDoor
open Go Go.RowKit Go.Proofs Go.Shelf
attribute [local go_sem] Oper.semAt_some


section
variable {P : Program} {α : Type} {k : Nat} {enc : α → List Value}
theorem Arr.blocks {w w' : World} {v : Value} {l : List α} (h : Arr k enc w v l) (hb : ∀ A n c b o, v = .slice A n c → A = some ⟨b, o, none⟩ → l ≠ [] → w'.heap[b]? = w.heap[b]?) : Arr k enc w' v l := by
 obtain ⟨A, cap, rfl, h2, h3, h4⟩ := h
 refine ⟨A, cap, rfl, h2, h3, fun hn => ?_⟩
 obtain ⟨b, o, h5, h6⟩ := h4 hn
 refine ⟨b, o, h5, fun j hj i hi => ?_⟩
 rw [cell_heap (hb _ _ _ _ _ rfl h5 hn)]
 exact h6 j hj i hi
/-- Slices that are read alone. -/
def slsB (k : Nat) (enc : α → List Value) (D : List (Dv α)) : It where
 ro := true
 foot b := ∃ p ∈ D, p.l ≠ [] ∧ ∃ o, p.A = some ⟨b, o, none⟩
 holds w := ∀ p ∈ D, Arr k enc w p.v p.l
 st w w' h h1 := fun p hp => (h1 p hp).blocks (fun A n c b o e1 e2 hn => by
  injection e1 with e1 _ _
  subst e1
  exact h b ⟨p, hp, hn, o, e2⟩)
/-- The slices lie in new blocks, or in the blocks OB. -/
def DvNew (w : World) (OB : Nat → Prop) (D : List (Dv α)) : Prop := ∀ p ∈ D, p.l ≠ [] → ∀ b o, p.A = some ⟨b, o, none⟩ → w.heap.size ≤ b ∨ OB b
theorem DvNew.nil {w : World} {OB : Nat → Prop} : DvNew (α := α) w OB [] := fun _ h => by cases h
theorem DvNew.app {w : World} {OB : Nat → Prop} {D D' : List (Dv α)} (h : DvNew w OB D) (h' : DvNew w OB D') : DvNew w OB (D ++ D') := fun p hp => by
 rcases List.mem_append.1 hp with hp | hp
 ·exact h p hp
 ·exact h' p hp
theorem DvNew.mono {w : World} {OB OB' : Nat → Prop} {D : List (Dv α)} (h : DvNew w OB D) (ho : ∀ b, OB b → w.heap.size ≤ b ∨ OB' b) : DvNew w OB' D := fun p hp hn b o e => by
 rcases h p hp hn b o e with h | h
 ·exact .inl h
 ·exact ho b h
/-- A result: slices, new or in the blocks OB. -/
def RetD (ty k : Nat) (enc : α → List Value) (OB : Nat → Prop) (L : List (List α)) (w : World) (e : Ending) (w' : World) : Prop :=
 ∃ A c, ∃ D : List (Dv α), D.map Dv.l = L ∧ e = .returned (.slice A D.length c) ∧ Wd (bs w) [ownB ty 1 A D.length c (D.flatMap eD), slsB k enc D] w' ∧ DvNew w OB D
end
section
variable {P : Program} {n : Nat} {B : Bs} {Q : Exit → Act → World → Prop} {l l' : Sl} {H H' H1 H2 : List It} {ops : Array Oper} {rest : List Oper} {o : Oper} {c : Code} {w w' : World} {ld lx : List Nat} {H0 Hx : List It} {fuel : Nat} {listed : Array Bool}
variable {P : Program} {α : Type} {k : Nat} {enc : α → List Value}
/-- An own slice is from now on read alone. -/
theorem Wd.freeze (E : Enc k enc) {ty cp : Nat} {A : Option Addr} {L : List α} (h : Wd B H w) (ha : At (ownB ty k A L.length cp (L.flatMap enc)) (slsB k enc [⟨A, L.length, cp, L⟩]) H H') (hl : L.length ≤ 9223372036854775807) : Wd B H' w := by
 have hA : Own 0 ty k enc w (.slice A L.length cp) L := (h.ok _ ha.mem).1
 refine h.turn ha (fun _ => rfl) ?_ ?_
 ·intro p hp
  rw [List.mem_singleton.1 hp]
  exact Arr.of_own E hA hl
 ·rintro b ⟨p, hp, -, o, ho⟩
  rw [List.mem_singleton.1 hp] at ho
  have ho' : A = some ⟨b, o, none⟩ := ho
  show (Value.slice A _ _).ownBlock = some b
  rw [ho']; rfl
theorem JL_freeze (E : Enc k enc) {ty cp : Nat} {A : Option Addr} {L : List α} (ha : At (ownB ty k A L.length cp (L.flatMap enc)) (slsB k enc [⟨A, L.length, cp, L⟩]) H H') (hl : L.length ≤ 9223372036854775807) (h : JL P n B ops Q rest l H') : JL P n B ops Q rest l H := fun a w h1 h2 => h a w h1 (h2.freeze E ha hl)
theorem J_freeze (E : Enc k enc) {ty cp : Nat} {A : Option Addr} {L : List α} (ha : At (ownB ty k A L.length cp (L.flatMap enc)) (slsB k enc [⟨A, L.length, cp, L⟩]) H H') (hl : L.length ≤ 9223372036854775807) (h : J P n B c Q l H') : J P n B c Q l H := fun a w h1 h2 => h a w h1 (h2.freeze E ha hl)
/-- A new block, as a slice's array. -/
theorem Wd.asOwn {b m kk ty : Nat} {vs : List Value} (h : Wd B H w) (ha : At (cellB b vs ty) (ownB ty kk (some ⟨b, 0, none⟩) m m vs) H H') (hl : vs.length = m * kk) (hm : m ≤ 1000000) : Wd B H' w := by
 have hA : w.heap[b]? = some (.cells vs.toArray ty (0, 0)) := (h.ok _ ha.mem).1
 refine h.turn ha (fun h => h) ?_ ?_
 ·exact ⟨hl, .inr ⟨b, m, vs.toArray, rfl, Nat.zero_le _, hA, Nat.le_refl _, by unfold maxLen; omega, by simp [hl], by simp [← hl]⟩⟩
 ·intro k hk
  have hk' : (Value.slice (some ⟨b, 0, none⟩) m m).ownBlock = some k := hk
  injection hk' with hk'
  exact hk'.symm
theorem J_asOwn {b m kk ty : Nat} {vs : List Value} (ha : At (cellB b vs ty) (ownB ty kk (some ⟨b, 0, none⟩) m m vs) H H') (hl : vs.length = m * kk) (hm : m ≤ 1000000) (h : J P n B c Q l H') : J P n B c Q l H := fun a w h1 h2 => h a w h1 (h2.asOwn ha hl hm)
theorem JL_asOwn {b m kk ty : Nat} {vs : List Value} (ha : At (cellB b vs ty) (ownB ty kk (some ⟨b, 0, none⟩) m m vs) H H') (hl : vs.length = m * kk) (hm : m ≤ 1000000) (h : JL P n B ops Q rest l H') : JL P n B ops Q rest l H := fun a w h1 h2 => h a w h1 (h2.asOwn ha hl hm)
theorem Wd.merge {D D' : List (Dv α)} (h : Wd B H w) (r1 : Rm (slsB k enc D) H H1) (r2 : Rm (slsB k enc D') H1 H2) : Wd B (slsB k enc (D ++ D') :: H2) w := by
 have hp := h.pick (Pk.pick r1 (Pk.pick r2 (show Pk H2 H2 from by
  clear r2 r1 h
  induction H2 with
  | nil => exact .nil _
  | cons A l ih => exact .pick (.here l) ih)))
 have s1 := List.pairwise_cons.1 hp.sep
 have s2 := List.pairwise_cons.1 s1.2
 have o1 := hp.ok _ (List.mem_cons_self ..)
 have o2 := hp.ok _ (List.mem_cons_of_mem _ (List.mem_cons_self ..))
 refine ⟨hp.os, hp.tape, hp.output, hp.size, hp.block, fun C hC => ?_, List.pairwise_cons.2 ⟨fun C hC => ?_, s2.2⟩⟩
 ·rcases List.mem_cons.1 hC with rfl | hC
  ·refine ⟨fun p hp => ?_, ?_⟩
   ·rcases List.mem_append.1 hp with hp | hp
    ·exact o1.1 p hp
    ·exact o2.1 p hp
   ·rintro b ⟨p, hp, hn, o, ho⟩
    rcases List.mem_append.1 hp with hp | hp
    ·exact o1.2 b ⟨p, hp, hn, o, ho⟩
    ·exact o2.2 b ⟨p, hp, hn, o, ho⟩
  ·exact hp.ok C (by simp [hC])
 ·cases hCr : C.ro with
  | true => exact .inl ⟨rfl, rfl⟩
  | false =>
   refine .inr ?_
   rintro b ⟨p, hp, hn, o, ho⟩ hb
   rcases List.mem_append.1 hp with hp | hp
   ·exact (sepR_symm _ _ (s1.1 C (by simp [hC]))).out hCr b hb ⟨p, hp, hn, o, ho⟩
   ·exact (sepR_symm _ _ (s2.1 C hC)).out hCr b hb ⟨p, hp, hn, o, ho⟩
theorem JL_merge {D D' : List (Dv α)} (r1 : Rm (slsB k enc D) H H1) (r2 : Rm (slsB k enc D') H1 H2) (h : JL P n B ops Q rest l (slsB k enc (D ++ D') :: H2)) : JL P n B ops Q rest l H := fun a w h1 h2 => h a w h1 (h2.merge r1 r2)
theorem J_merge {D D' : List (Dv α)} (r1 : Rm (slsB k enc D) H H1) (r2 : Rm (slsB k enc D') H1 H2) (h : J P n B c Q l (slsB k enc (D ++ D') :: H2)) : J P n B c Q l H := fun a w h1 h2 => h a w h1 (h2.merge r1 r2)
theorem Wd.sls0 (k : Nat) (enc : α → List Value) (h : Wd B H w) : Wd B (slsB k enc [] :: H) w :=
 h.new (Below.refl _ _) (fun p hp => by cases hp) (fun b ⟨p, hp, _⟩ => by cases hp)
theorem J_sls0 (k : Nat) (enc : α → List Value) (h : J P n B c Q l (slsB k enc [] :: H)) : J P n B c Q l H := fun a w h1 h2 => h a w h1 (h2.sls0 k enc)
theorem JL_sls0 (k : Nat) (enc : α → List Value) (h : JL P n B ops Q rest l (slsB k enc [] :: H)) : JL P n B ops Q rest l H := fun a w h1 h2 => h a w h1 (h2.sls0 k enc)
/-- A slice of the caller's, as one that is read alone. -/
theorem Wd.given {A : Option Addr} {cp : Nat} {L : List α} (hk : 0 < k) (E : Enc k enc) (h : Wd B H w) (hm : ∀ b, ¬ B.m b) (hv : Arr k enc B.w (.slice A L.length cp) L) : Wd B (slsB k enc [⟨A, L.length, cp, L⟩] :: H) w := by
 have hold : ∀ b o, L ≠ [] → A = some ⟨b, o, none⟩ → b < B.w.heap.size := by
  intro b o hn hA
  obtain ⟨A', cap, e, -, -, h4⟩ := hv
  injection e with e1 _ _
  obtain ⟨b', o', h5, h6⟩ := h4 hn
  rw [← e1, hA] at h5
  injection h5 with h5
  injection h5 with h5 _ _
  subst h5
  have h0 : 0 < L.length := List.length_pos_iff.2 hn
  have := h6 0 h0 0 hk
  rw [List.getElem?_eq_getElem (by rw [E.len]; exact hk)] at this
  exact lt_cell this
 refine ⟨h.os, h.tape, h.output, h.size, h.block, fun C hC => ?_, List.pairwise_cons.2 ⟨fun C hC => ?_, h.sep⟩⟩
 ·rcases List.mem_cons.1 hC with rfl | hC
  ·refine ⟨fun p hp => ?_, ?_⟩
   ·rw [List.mem_singleton.1 hp]
    exact hv.up E (h.below hm)
   ·rintro b ⟨p, hp, hn, o, ho⟩
    rw [List.mem_singleton.1 hp] at hn ho
    exact ⟨.inl rfl, Nat.lt_of_lt_of_le (hold b o hn ho) h.size⟩
  ·exact h.ok C hC
 ·cases hCr : C.ro with
  | true => exact .inl ⟨rfl, rfl⟩
  | false =>
   refine .inr ?_
   rintro b ⟨p, hp, hn, o, ho⟩ hb
   rw [List.mem_singleton.1 hp] at hn ho
   have h1 := hold b o hn ho
   rcases ((h.ok C hC).2 b hb).1 with h2 | h2 | h2
   ·rw [hCr] at h2; cases h2
   ·exact hm b h2
   ·omega
theorem J_given {A : Option Addr} {cp : Nat} {L : List α} (hk : 0 < k) (E : Enc k enc) (hm : ∀ b, ¬ B.m b) (hv : Arr k enc B.w (.slice A L.length cp) L) (h : J P n B c Q l (slsB k enc [⟨A, L.length, cp, L⟩] :: H)) : J P n B c Q l H := fun a w h1 h2 => h a w h1 (h2.given hk E hm hv)
theorem sls_arr {D : List (Dv α)} (hw : Wd B H w) (hm : slsB k enc D ∈ H) {p : Dv α} (hp : p ∈ D) : Arr k enc w p.v p.l := (hw.ok _ hm).1 p hp
theorem sls_len {D : List (Dv α)} (hw : ∃ w, Wd B H w) (hm : slsB k enc D ∈ H) {p : Dv α} (hp : p ∈ D) : p.n = p.l.length ∧ p.n ≤ p.c ∧ p.c ≤ maxLen ∧ (p.l ≠ [] → ∃ b o, p.A = some ⟨b, o, none⟩) := by
 obtain ⟨w, hw⟩ := hw
 obtain ⟨A, cap, e, h2, h3, h4⟩ := sls_arr hw hm hp
 injection e with e1 e2 e3
 refine ⟨e2, by rw [e2, e3]; exact h2, by rw [e3]; exact h3.2, fun hn => ?_⟩
 obtain ⟨b, o, h5, -⟩ := h4 hn
 exact ⟨b, o, by rw [e1]; exact h5⟩
theorem rv_sls {D : List (Dv α)} {t : TypeId} {x : Operand} {b q j i : Nat} {v : Value} (p : Dv α) (ho : o.op = .load t x) (hx : evl l x = some (.pointer (some ⟨b, q + j * k + i, none⟩))) (hagg : ∀ w, (isAgg t).run P w = .ok false w) (hm : slsB k enc D ∈ H) (hp : p ∈ D) (hA : p.A = some ⟨b, q, none⟩) (hj : j < p.l.length) (hi : i < k) (hv : (enc (p.l[j]'hj))[i]? = some v) : RV P n B l H o v :=
 rv_read ho hx (fun w hw => run_load_agg0 hagg (by
  obtain ⟨A, cap, e, h2, h3, h4⟩ := sls_arr hw hm hp
  injection e with e1 e2 e3
  obtain ⟨b', o', h5, h6⟩ := h4 (by intro e; rw [e] at hj; simp at hj)
  rw [← e1, hA] at h5
  injection h5 with h5
  injection h5 with h7 h8 _
  subst h7 h8
  rw [h6 j hj i hi]; exact hv))
theorem rv_slsagg {D : List (Dv α)} (E : Enc k enc) {t : TypeId} {x : Operand} {b q j : Nat} {cs : List Value} (p : Dv α) (ho : o.op = .load t x) (hx : evl l x = some (.pointer (some ⟨b, q + j * k + 0, none⟩))) (hagg : ∀ w, (isAgg t).run P w = .ok true w) (hsz : ∀ w, (sizeOf t).run P w = .ok k w) (hm : slsB k enc D ∈ H) (hp : p ∈ D) (hA : p.A = some ⟨b, q, none⟩) (hj : j < p.l.length) (hv : enc (p.l[j]'hj) = cs) : RV P n B l H o (.agg cs.toArray) := by
 subst hv
 refine rv_read ho hx (fun w hw => run_load_agg1 hagg (by rw [E.len]; exact hsz) (fun i v hi => ?_))
 obtain ⟨A, cap, e, h2, h3, h4⟩ := sls_arr hw hm hp
 injection e with e1 e2 e3
 obtain ⟨b', o', h5, h6⟩ := h4 (by intro e; rw [e] at hj; simp at hj)
 rw [← e1, hA] at h5
 injection h5 with h5
 injection h5 with h7 h8 _
 subst h7 h8
 have h := (List.getElem?_eq_some_iff.1 hi).1
 rw [E.len] at h
 rw [Nat.add_zero, h6 j hj i h]; exact hi
/-- A call that gives slices. -/
theorem ow_callD {ty : Nat} {OB : Nat → Prop} {L : List (List α)} {d : Nat} {f : FuncId} {args : Array Value} (he : EC P n l o f args) (hd : o.dst = some d) (hn : Nat.ble n d = false) (hOB : ∀ w, Wd B H w → ∀ C ∈ H, C.ro = false → ∀ b, OB b → C.foot b → False) (hC : ∀ w, Wd B H w → Calls P f args w (RetD ty k enc OB L w)) :
  OpW P n B none l H o (T := Option Addr × Nat × List (Dv α)) (fun t => t.2.2.map Dv.l = L ∧ DvNew B.w OB t.2.2) (fun t => (d, .slice t.1 t.2.2.length t.2.1) :: l) (fun t => ownB ty 1 t.1 t.2.2.length t.2.1 (t.2.2.flatMap eD) :: slsB k enc t.2.2 :: H) :=
 ow_call (m := none) he hd hn (V := fun t => .slice t.1 t.2.2.length t.2.1) (fun w hw => (hC w hw).mono fun e w' ⟨A, c, D, h0, h1, h2, h3⟩ => ⟨(A, c, D), ⟨h0, fun p hp hn b o e => (h3 p hp hn b o e).imp_left (fun h => Nat.le_trans hw.size h)⟩, h1, hw.retR h2 (by
  intro C hC hr C' hC' hr' b hb hb'
  rcases List.mem_cons.1 hC with rfl | hC
  ·cases hr
  ·rw [List.mem_singleton.1 hC] at hb
   obtain ⟨p, hp, hn, o, ho⟩ := hb
   rcases h3 p hp hn b o ho with h4 | h4
   ·have := ((hw.ok C' hC').2 b hb').2
    omega
   ·exact hOB w hw C' hC' hr' b h4 hb'), h2.bel⟩)
theorem own_new {w0 : World} {OB : Nat → Prop} {ty kk m cp nn : Nat} {A : Option Addr} {xs : List Value} {L : List α} (hw : ∃ w, Wd (bs w0) H w) (hm : ownB ty kk A m cp xs ∈ H) : DvNew w0 OB [(⟨A, nn, cp, L⟩ : Dv α)] := by
 intro p hp _ b o e
 rw [List.mem_singleton.1 hp] at e
 have e' : A = some ⟨b, o, none⟩ := e
 obtain ⟨w, hw⟩ := hw
 have h1 := ((hw.ok _ hm).2 b (by show (Value.slice A m cp).ownBlock = some b; rw [e']; rfl)).1
 rcases h1 with h1 | h1 | h1
 ·cases h1
 ·exact h1.elim
 ·exact .inl h1
theorem noOB {w : World} : ∀ (_ : Wd B H w), ∀ C ∈ H, C.ro = false → ∀ b, False → C.foot b → False := fun _ _ _ _ _ h _ => h
theorem pw_ro : ∀ {H : List It}, H.Pairwise sepR → ∀ X Y : It, X ∈ H → Y ∈ H → X.ro = false → Y.ro = true → sepR X Y
 | [], _, _, _, h, _, _, _ => by cases h
 | Z :: T, hw, X, Y, hX, hY, hXr, hYr => by
  rw [List.pairwise_cons] at hw
  rcases List.mem_cons.1 hX with e | hX
  ·rcases List.mem_cons.1 hY with e' | hY
   ·rw [e, ← e', hYr] at hXr; cases hXr
   ·rw [e]; exact hw.1 Y hY
  ·rcases List.mem_cons.1 hY with e' | hY
   ·rw [e']; exact sepR_symm _ _ (hw.1 X hX)
   ·exact pw_ro hw.2 X Y hX hY hXr hYr
/-- The old blocks are those of an item that is read alone. -/
theorem roOB {A : It} (hA : A ∈ H) (hr : A.ro = true) (hw : Wd B H w) : ∀ C ∈ H, C.ro = false → ∀ b, A.foot b → C.foot b → False :=
 fun C hC hCr b h1 h2 => (pw_ro hw.sep C A hC hA hCr hr).out hCr b h2 h1
end

/- The walk by live slots: calls that write an item of the caller; sets. -/

section
variable {P : Program} {n : Nat} {B : Bs} {Q : Exit → Act → World → Prop} {l l' : Sl} {H H' : List It} {ops : Array Oper} {rest : List Oper} {o : Oper} {c : Code} {w w' : World}
/-- The start of a call that may write an item of the caller. -/
theorem Wd.startM {A : It} (h : A.holds w) (hf : ∀ b, A.foot b → b < w.heap.size) : Wd ⟨w, A.foot, none, []⟩ [A] w :=
 ⟨rfl, rfl, rfl, Nat.le_refl _, fun _ _ _ => rfl, fun C hC => by rw [List.mem_singleton.1 hC]; exact ⟨h, fun b hb => ⟨.inr (.inl hb), hf b hb⟩⟩, List.pairwise_singleton _ _⟩
/-- A call's end: it has written the item A; now it is C. -/
def RetM (A : It) {T : Type} (φ : T → Prop) (V : T → Value) (C : T → It) (w : World) (e : Ending) (w' : World) : Prop := ∃ t, φ t ∧ e = .returned (V t) ∧ Wd ⟨w, A.foot, none, []⟩ [C t] w'
theorem Wd.chgOf {A C : It} (h : Wd ⟨w, A.foot, none, []⟩ [C] w') : Chg A w w' := ⟨h.os, h.tape, h.output, h.size, fun b hb hn => h.block b hb hn⟩
theorem ow_callM {A : It} {T : Type} {φ : T → Prop} {V : T → Value} {C : T → It} {G : T → List It} {d : Nat} {f : FuncId} {args : Array Value} (he : EC P n l o f args) (hd : o.dst = some d) (hn : Nat.ble n d = false) (hAr : A.ro = false) (hCr : ∀ t, (C t).ro = false) (hat : ∀ t, At A (C t) H (G t)) (hC : ∀ w, Wd B H w → Calls P f args w (RetM A φ V C w)) :
  OpW P n B (some A) l H o φ (fun t => (d, V t) :: l) G :=
 ow_call (m := some A) he hd hn (V := V) (fun w hw => (hC w hw).mono fun _ w' ⟨t, h0, h1, h2⟩ => by
  have hc : Chg A w w' := Wd.chgOf h2
  have hk := h2.ok (C t) (by simp)
  refine ⟨t, h0, h1, hw.chg (hat t) hAr (hCr t) hc hk.1 (fun b hb => ⟨?_, (hk.2 b hb).2⟩), hc⟩
  rcases (hk.2 b hb).1 with h | h | h
  ·rw [hCr t] at h; cases h
  ·exact .inl h
  ·exact .inr h)
/-- A set. -/
def setG {α : Type} [DecidableEq α] (S : List α) : α → Option Bool := fun y => if y ∈ S then some true else none
def setB (P : Program) {α : Type} [DecidableEq α] (kt : TypeId) (kv : α → Value) (ok : α → Prop) (b : Nat) (S : List α) : It where
 foot k := k = b
 holds w := ∃ n c, n ≤ S.length ∧ MapF P kt 4 kv ok dB w b n c (setG S)
 st _ _ h h1 := by obtain ⟨n, c, h0, h1⟩ := h1; exact ⟨n, c, h0, h1.heap (h b rfl)⟩
section
variable {α : Type} [DecidableEq α] {kv : α → Value} {ok : α → Prop}
theorem setG_upd (S : List α) (x : α) : upd (setG S) x true = setG (x :: S) := by
 funext y; unfold upd setG
 by_cases h : y = x <;> simp [h]
theorem setG_get (S : List α) (x : α) : (setG S x).getD false = decide (x ∈ S) := by
 unfold setG
 by_cases h : x ∈ S <;> simp [h]
theorem setB_lt {kt b : Nat} {S : List α} (h : (setB P kt kv ok b S).holds w) : b < w.heap.size := by
 obtain ⟨n, c, -, h⟩ := h; exact h.lt
theorem setG_nil : (setG ([] : List α)) = fun _ => none := by funext y; simp [setG]
theorem ow_makeSet {kt t : TypeId} {d : Nat} (ho : o.op = .makeMap t none) (hd : o.dst = some d) (hn : Nat.ble n d = false) (hm : ∀ w, (Instr.makeMap t none).run P w = .ok (.map (some w.heap.size)) (w.alloc (.map #[] 0))) :
  OpW P n B none l H o (fun b : Nat => B.w.heap.size ≤ b) (fun b => (d, .map (some b)) :: l) (fun b => setB P kt kv ok b [] :: H) :=
 OpW.of_run hd hn (fun a w _ hw => by
  have hm' : (setB P kt kv ok w.heap.size []).holds (w.alloc (.map #[] 0)) := ⟨0, 0, Nat.le_refl _, by rw [setG_nil]; exact MapF.made w⟩
  exact ⟨w.heap.size, w.alloc (.map #[] 0), hw.size, by unfold execOp; rw [ho]; simp only [Option.map_none, Sem.run_bind, hm, Result.andThen_ok, Sem.run_pure], hw.new ((Below.refl _ _).alloc (Nat.le_refl _) _) hm' (fun b e => by cases e; simp), (show Below _ _ _ from (Below.refl _ _).alloc (Nat.le_refl _) _)⟩)
theorem rv_lookS {kt t : TypeId} {x y : Operand} {b : Nat} {S : List α} {u : Value} (K : KeyL P kt kv ok) (E4 : ElL P 4 kB dB false (fun _ => True)) (k : α) (ht : P.underlying t = some (.map kt 4)) (ho : o.op = .lookup t x y false) (hx : evl l x = some (.map (some b))) (hy : evl l y = some u) (hm : setB P kt kv ok b S ∈ H) (hu : u = kv k) (hk : ok k) :
  RV P n B l H o (.bool (decide (k ∈ S))) := fun a w ha hw => by
 obtain ⟨n, c, -, h⟩ := (hw.ok _ hm).1
 have h' := h.look K E4 ht hk
 rw [setG_get] at h'
 unfold execOp; rw [ho]; simp only [ha.ev hx, ha.ev hy, hu, Sem.run_bind, h', Result.andThen_ok, Sem.run_pure]; rfl
theorem setB_up {kt b : Nat} {S : List α} (h : (setB P kt kv ok b S).holds w) (hb : Below w.heap.size w w') : (setB P kt kv ok b S).holds w' := by
 obtain ⟨n, c, h0, h1⟩ := h; exact ⟨n, c, h0, h1.up hb⟩
theorem rv_lookSO {kt t : TypeId} {x y : Operand} {b : Nat} {S : List α} {u : Value} (K : KeyL P kt kv ok) (E4 : ElL P 4 kB dB false (fun _ => True)) (k : α) (ht : P.underlying t = some (.map kt 4)) (ho : o.op = .lookup t x y false) (hx : evl l x = some (.map (some b))) (hy : evl l y = some u) (hm : ¬ B.m b) (h0 : (setB P kt kv ok b S).holds B.w) (hu : u = kv k) (hk : ok k) :
  RV P n B l H o (.bool (decide (k ∈ S))) := fun a w ha hw => by
 obtain ⟨n, c, -, h⟩ := (setB P kt kv ok b S).st B.w w (fun b' e => by cases e; exact hw.block _ (setB_lt h0) hm) h0
 have h' := h.look K E4 ht hk
 rw [setG_get] at h'
 unfold execOp; rw [ho]; simp only [ha.ev hx, ha.ev hy, hu, Sem.run_bind, h', Result.andThen_ok, Sem.run_pure]; rfl
theorem ow_putS {kt t : TypeId} {x y q : Operand} {b : Nat} {S : List α} {u s : Value} (K : KeyL P kt kv ok) (E4 : ElL P 4 kB dB false (fun _ => True)) (k : α) (ht : P.underlying t = some (.map kt 4)) (ho : o.op = .mapUpdate t x y q) (hd : o.dst = none) (hx : evl l x = some (.map (some b))) (hy : evl l y = some u) (hq : evl l q = some s) (hu : u = kv k) (hs : s = .bool true)
  (hat : At (setB P kt kv ok b S) (setB P kt kv ok b (k :: S)) H H') (hk : ok k) (hmn : S.length < 1000000) : OpW P n B (some (setB P kt kv ok b S)) l H o (fun _ : Unit => True) (fun _ => l) (fun _ => H') :=
 OpW.of_skip hd (fun a w ha hw => by
  obtain ⟨n, c, h0, h⟩ := (hw.ok _ hat.mem).1
  obtain ⟨w', h1, h2, h3⟩ := h.put K E4 ht (by omega) hk (v := true) trivial
  rw [setG_upd] at h2
  have hc : Chg (setB P kt kv ok b S) w w' := ⟨h3.os, h3.tape, h3.output, h3.size, fun k hk hnk => h3.block k hk (fun e => hnk (by injection e))⟩
  refine ⟨(), w', trivial, by unfold execOp; rw [ho]; simp only [ha.ev hx, ha.ev hy, ha.ev hq, hu, hs, Sem.run_bind, show (Value.bool true) = kB true from rfl, h1, Result.andThen_ok, Sem.run_pure], hw.chg hat rfl rfl hc ⟨_, _, Nat.succ_le_succ h0, h2⟩ (fun k hk => ⟨.inl hk, ?_⟩), hc⟩
  have : k = b := hk
  subst this
  exact h2.lt)
end
end

/- The walk by live slots: calls that write several items of the caller; views of slices that are read alone. -/

/-- Some items, as one: where they lie. -/
def allI (HA : List It) : It where
 foot b := ∃ A ∈ HA, A.foot b
 holds _ := True
 st _ _ _ _ := trivial
section
variable {P : Program} {n : Nat} {B : Bs} {Q : Exit → Act → World → Prop} {l l' : Sl} {H H' HA H1 G : List It} {ops : Array Oper} {rest : List Oper} {o : Oper} {c : Code} {w w' : World}
/-- The start of a call that may write items of the caller. -/
theorem Wd.startL (h : Wd B HA w) : Wd ⟨w, (allI HA).foot, none, []⟩ HA w :=
 ⟨rfl, rfl, rfl, Nat.le_refl _, fun _ _ _ => rfl, fun C hC => ⟨(h.ok C hC).1, fun b hb => ⟨.inr (.inl ⟨C, hC, hb⟩), ((h.ok C hC).2 b hb).2⟩⟩, h.sep⟩
def RetL (HA : List It) {T : Type} (φ : T → Prop) (V : T → Value) (G : T → List It) (w : World) (e : Ending) (w' : World) : Prop := ∃ t, φ t ∧ e = .returned (V t) ∧ Wd ⟨w, (allI HA).foot, none, []⟩ (G t) w'
theorem Wd.retL (hw : Wd B H w) (hk : Pk (HA ++ H1) H) (hn : (HA.all fun A => !A.ro) = true) (hg : Wd ⟨w, (allI HA).foot, none, []⟩ G w') (hG : (G.all fun A => !A.ro) = true) : Wd B (G ++ H1) w' := by
 have h0 := hw.pick hk
 have hHA : ∀ A ∈ HA, A.ro = false := fun A hA => by
  have := List.all_eq_true.1 hn A hA
  cases h : A.ro
  ·rfl
  ·rw [h] at this; cases this
 have hGr : ∀ A ∈ G, A.ro = false := fun A hA => by
  have := List.all_eq_true.1 hG A hA
  cases h : A.ro
  ·rfl
  ·rw [h] at this; cases this
 obtain ⟨s1, s2, s3⟩ := List.pairwise_append.1 h0.sep
 have hfA : ∀ b, (allI HA).foot b → B.m b ∨ B.w.heap.size ≤ b := fun b ⟨A, hA, hb⟩ => by
  rcases ((h0.ok A (by simp [hA])).2 b hb).1 with h | h | h
  ·rw [hHA A hA] at h; cases h
  ·exact .inl h
  ·exact .inr h
 have hfD : ∀ D ∈ H1, ∀ b, D.foot b → ¬ (allI HA).foot b := fun D hD b hb ⟨A, hA, hAb⟩ => by
  rcases s3 A hA D hD with h | h
  ·rw [hHA A hA] at h; cases h.1
  ·exact h b hAb hb
 refine ⟨hg.os.trans h0.os, hg.tape.trans h0.tape, hg.output.trans h0.output, Nat.le_trans h0.size hg.size, fun b h1 h2 => ?_, fun C hC => ?_, List.pairwise_append.2 ⟨hg.sep, s2, fun C hC D hD => ?_⟩⟩
 ·refine (hg.block b (Nat.lt_of_lt_of_le h1 h0.size) (fun hf => ?_)).trans (h0.block b h1 h2)
  rcases hfA b hf with h | h
  ·exact h2 h
  ·omega
 ·rcases List.mem_append.1 hC with hC | hC
  ·refine ⟨(hg.ok C hC).1, fun b hb => ⟨?_, ((hg.ok C hC).2 b hb).2⟩⟩
   rcases ((hg.ok C hC).2 b hb).1 with h | h | h
   ·exact .inl h
   ·exact .inr (hfA b h)
   ·exact .inr (.inr (Nat.le_trans h0.size h))
  ·have hc := h0.ok C (by simp [hC])
   exact ⟨C.st w w' (fun b hb => hg.block b (hc.2 b hb).2 (hfD C hC b hb)) hc.1, fun b hb => ⟨(hc.2 b hb).1, Nat.lt_of_lt_of_le (hc.2 b hb).2 hg.size⟩⟩
 ·refine .inr (fun b hb hd => ?_)
  have hlt := ((h0.ok D (by simp [hD])).2 b hd).2
  rcases ((hg.ok C hC).2 b hb).1 with h | h | h
  ·rw [hGr C hC] at h; cases h
  ·exact hfD D hD b hd h
  ·exact absurd (Nat.lt_of_lt_of_le hlt h) (Nat.lt_irrefl _)
theorem Wd.chgL (h : Wd ⟨w, (allI HA).foot, none, []⟩ G w') : Chg (allI HA) w w' := ⟨h.os, h.tape, h.output, h.size, fun b hb hn => h.block b hb hn⟩
/-- A call that writes items of the caller, and gives new ones. -/
theorem ow_callL (HA H1 : List It) {T : Type} {φ : T → Prop} {V : T → Value} {G : T → List It} {d : Nat} {f : FuncId} {args : Array Value} (he : EC P n l o f args) (hd : o.dst = some d) (hn : Nat.ble n d = false) (hk : Pk (HA ++ H1) H) (hA : (HA.all fun A => !A.ro) = true) (hG : ∀ t, ((G t).all fun A => !A.ro) = true)
  (hC : ∀ w, Wd B H w → Wd B HA w → Calls P f args w (RetL HA φ V G w)) : OpW P n B (some (allI HA)) l H o φ (fun t => (d, V t) :: l) (fun t => G t ++ H1) :=
 ow_call (m := some (allI HA)) he hd hn (V := V) (fun w hw => (hC w hw (by
  have h0 := hw.pick hk
  exact ⟨h0.os, h0.tape, h0.output, h0.size, h0.block, fun C hC => h0.ok C (by simp [hC]), (List.pairwise_append.1 h0.sep).1⟩)).mono fun _ w' ⟨t, h1, h2, h3⟩ => ⟨t, h1, h2, hw.retL hk hA h3 (hG t), h3.chgL⟩)
theorem Rm.cases {A X : It} (h : Rm A H H1) (hX : X ∈ H) : X = A ∨ X ∈ H1 := by
 induction h with
 | here l => rcases List.mem_cons.1 hX with h | h; exact .inl h; exact .inr h
 | there D h ih =>
  rcases List.mem_cons.1 hX with h | h
  ·exact .inr (by rw [h]; simp)
  ·rcases ih h with h | h
   ·exact .inl h
   ·exact .inr (by simp [h])
/-- A view of what is read alone. -/
theorem Wd.addRo {C D : It} (h : Wd B H w) (rm : Rm C H H1) (hr : C.ro = true) (hDr : D.ro = true) (hD : D.holds w) (hf : ∀ b, D.foot b → C.foot b) : Wd B (D :: H) w := by
 have hc := h.ok C rm.mem
 have hs := (rm.sep (R := sepR) sepR_symm h.sep).2
 refine ⟨h.os, h.tape, h.output, h.size, h.block, fun X hX => ?_, List.pairwise_cons.2 ⟨fun X hX => ?_, h.sep⟩⟩
 ·rcases List.mem_cons.1 hX with rfl | hX
  ·exact ⟨hD, fun b hb => ⟨.inl hDr, (hc.2 b (hf b hb)).2⟩⟩
  ·exact h.ok X hX
 ·rcases rm.cases hX with rfl | hX
  ·exact .inl ⟨hDr, hr⟩
  ·rcases hs X hX with h | h
   ·exact .inl ⟨hDr, h.2⟩
   ·exact .inr (fun b h1 h2 => h b (hf b h1) h2)
end
section
variable {P : Program} {n : Nat} {B : Bs} {l : Sl} {H H0 Hx : List It} {o : Oper} {ops : Array Oper} {Q : Exit → Act → World → Prop} {ld lx : List Nat} {fuel : Nat} {listed : Array Bool}
theorem wn_u {g d : Nat} {b : Bool} (hg : o.guard = some (g, b)) (hd : (ops[g]?).bind (·.dst) = some d) (hv : lk l d = some undef) : WN ops n l o false := fun a ha => by
  have h := ha.get d _ hv
  rw [Array.getD_eq_getD_getElem?] at h
  unfold Region.wanted yielded
  rw [hg]
  simp only [hd, Option.bind_some]
  cases h1 : a.tmps[d]? with
  | none => rfl
  | some u =>
    rw [h1] at h
    simp only [Option.getD_some] at h
    subst h
    cases b <;> rfl
theorem JA_offL {i d : Nat} (hi : ops[i]? = some o) (hd : o.dst = some d) (hs : Region.noSelect ops = true) (hf : Region.free .any ops listed i = true) (hr : (Region.ready .any ops listed).contains i = true) (hlx : lx.contains i = false) (hk : Pk H0 H)
    (hW : WN ops n l o false) (hn : Nat.ble n d = false) (k : JA P n B ops Q ld H0 lx Hx fuel (listed.setIfInBounds i true) ((d, undef) :: l) H) : JA P n B ops Q ld H0 lx Hx (fuel + 1) listed l H := fun a _ ha hw =>
  wpAnyP_takeD0 hi hd hs hf hr (fun _ _ _ h => nq_panic h) (.inr ⟨hW a ha, rfl⟩) ⟨fun _ => hw.pick hk, (fun h => by rw [hlx] at h; cases h)⟩ (k _ _ (ha.put d undef hn) hw)
theorem JA_offX {i d : Nat} (hi : ops[i]? = some o) (hd : o.dst = some d) (hs : Region.noSelect ops = true) (hf : Region.free .any ops listed i = true) (hr : (Region.ready .any ops listed).contains i = true) (hl : ld.contains i = false) (hk : Pk Hx H)
    (hW : WN ops n l o false) (hn : Nat.ble n d = false) (k : JA P n B ops Q ld H0 lx Hx fuel (listed.setIfInBounds i true) ((d, undef) :: l) H) : JA P n B ops Q ld H0 lx Hx (fuel + 1) listed l H := fun a _ ha hw =>
  wpAnyP_takeD0 hi hd hs hf hr (fun _ _ _ h => nq_panic h) (.inr ⟨hW a ha, rfl⟩) ⟨(fun h => by rw [hl] at h; cases h), fun _ => hw.pick hk⟩ (k _ _ (ha.put d undef hn) hw)
end

def eU (x : Int) : List Value := [.int .u8 x]
theorem EU : Enc 1 eU := ⟨fun _ => rfl, fun x v h => by simp [eU] at h; subst h; rfl⟩
def eB (x : Bool) : List Value := [.bool x]
theorem EB : Enc 1 eB := ⟨fun _ => rfl, fun x v h => by simp [eB] at h; subst h; rfl⟩
def U8 (x : Int) : Prop := 0 ≤ x ∧ x ≤ 255
/-- A slice as a parameter: if it is not too long it holds elements. -/
def RowP {α : Type} (k : Nat) (ec : α → List Value) (wf : α → Prop) (w : World) (A : Option Addr) (n c : Nat) : Prop := n ≤ 9223372036854775807 → ∃ l : List α, l.length = n ∧ Arr k ec w (.slice A n c) l ∧ ∀ s ∈ l, wf s
/-- A slice as a parameter, however long. -/
def RowQ {α : Type} (k : Nat) (ec : α → List Value) (wf : α → Prop) (w : World) (A : Option Addr) (n : Nat) : Prop := n ≤ maxLen ∧ ∃ l : List α, l.length = n ∧ (l ≠ [] → ∃ b o, A = some ⟨b, o, none⟩ ∧ HoldL k ec w b o l) ∧ ∀ s ∈ l, wf s
section
variable {P : Program} {ρ : Operand → Value} {o : Oper} {w : World} {x y : Operand}
theorem ex_geq8 {a b : Int} {ty : TypeId} (ho : o.op = .binOp .geq 5 x y ty) (hx : ρ x = .int .u8 a) (hy : ρ y = .int .u8 b) : (execOp ρ o).run P w = .ok (.value (.bool (decide (b ≤ a)))) w := by
  unfold execOp
  simp only [ho, hx, hy]
  go_simp
theorem wrap64 {a : Int} (h : -9223372036854775808 ≤ a ∧ a ≤ 9223372036854775807) : IntKind.i64.wrap a = a := by
    unfold IntKind.wrap IntKind.bits IntKind.signed
    simp only [Bool.true_and, decide_eq_true_eq]
    split <;> omega
theorem ex_conv {s d : TypeId} {k k' : IntKind} {a : Int} [us : Und P s (.int k)] [ud : Und P d (.int k')] (ho : o.op = .convert s d x) (hx : ρ x = .int k a) (hw : k'.wrap a = a) : (execOp ρ o).run P w = .ok (.value (.int k' a)) w := by
  have h : (convert s d (.int k a)).run P w = .ok (.int k' (k'.wrap a)) w := by simp [convert, run_underlying us.h, run_underlying ud.h, Conv.intToInt]
  rw [hw] at h
  unfold execOp
  simp only [ho, hx, Sem.run_bind, h, Result.andThen_ok, Sem.run_pure]
theorem ex_conv8 {s d : TypeId} {a : Int} [us : Und P s (.int .u8)] [ud : Und P d (.int .i64)] (ho : o.op = .convert s d x) (hx : ρ x = .int .u8 a) (ha : U8 a) : (execOp ρ o).run P w = .ok (.value (.int .i64 a)) w := ex_conv ho hx (wrap64 (by unfold U8 at ha; omega))
end
theorem At.same {A : It} {H H' : List It} (h : At A A H H') : H = H' := by
  induction h with
  | here l => rfl
  | there D _ ih => rw [ih]
theorem HoldL.news {α : Type} {k : Nat} {enc : α → List Value} (E : Enc k enc) (hk : 0 < k) {w : World} {b o : Nat} {M : List α} (h : HoldL k enc w b o M) (j : Nat) (u : Value) (hu : (M.flatMap enc)[j]? = some u) : w.cell? ((⟨b, o, none⟩ : Addr).add j) = some u := by
  have hl := flat_len E M
  have hj : j < (M.flatMap enc).length := (List.getElem?_eq_some_iff.1 hu).1
  have hd := Nat.div_add_mod j k
  have hm := Nat.mod_lt j hk
  have hq : j / k < M.length := by
    rw [hl] at hj
    exact Nat.div_lt_of_lt_mul (by rw [Nat.mul_comm]; exact hj)
  have h1 := h (j / k) hq (j % k) hm
  have h2 := flat_get E hq (j % k) hm
  rw [Nat.mul_comm] at hd
  rw [hd] at h2
  rw [Nat.add_assoc, hd, ← h2, hu] at h1
  rw [← h1, Addr.add_mid]
section
variable {P : Program} {n : Nat} {B : Bs} {l : Sl} {H H' : List It} {o : Oper}
set_option maxRecDepth 100000 in
/-- append(s, t...), of whatever t. -/
theorem ow_appX {α : Type} {k : Nat} {enc : α → List Value} (E : Enc k enc) (hk : 0 < k) {sl e : TypeId} {z : Value} {bytes d : Nat} {x y : Operand} {A Y : Option Addr} {c m c' : Nat} {L M : List α} {G : Option Addr → Nat → List It}
    (ht : P.underlying sl = some (.slice e)) (hinf : (P.info? e).map (fun i => (i.zero, i.size, i.bytes)) = some (some z, k, bytes)) (hzs : z.cells.size = k) (hby : bytes ≤ 128) (hs : ∀ w, (sizeOf e).run P w = .ok k w)
    (ho : o.op = .call { callee := .builtin .append, args := #[x, y], argTypes := #[sl, sl] }) (hd : o.dst = some d) (hn : Nat.ble n d = false) (hx : evl l x = some (.slice A L.length c)) (hy : evl l y = some (.slice Y m c')) (hm : m = M.length) (hY : Y = none → c' = 0) (hLc : L.length ≤ c)
    (hnews : ∀ w, Wd B H w → Arr k enc w (.slice Y m c') M) (hl : L.length + M.length ≤ 1000000)
    (hat : ∀ A' c', At (ownB e k A L.length c (L.flatMap enc)) (ownB e k A' (L ++ M).length c' ((L ++ M).flatMap enc)) H (G A' c')) : OpS P n B (some (ownB e k A L.length c (L.flatMap enc))) l H o (fun A' c' => (d, .slice A' (L ++ M).length c') :: l) G := by
  cases Y with
  | some a =>
    refine ow_app (M := M) E hk ht hinf hzs hby ho hd hn hx hy hm (fun w hw j u hu => ?_) hl hat
    have hne : M ≠ [] := by intro e; subst e; simp at hu
    obtain ⟨A', cap, e, -, -, h4⟩ := hnews w hw
    injection e with e1
    obtain ⟨b, q, e2, hh⟩ := h4 hne
    rw [← e1] at e2
    injection e2 with e2
    subst e2
    exact hh.news E hk j u hu
  | none =>
    have hc := hY rfl
    subst hc
    refine OpW.of_run (T := Option Addr × Nat) (φ := fun _ => True) (G := fun t => G t.1 t.2) hd hn (V := fun t => .slice t.1 (L ++ M).length t.2) (fun a1 w ha hw => ?_)
    have hM : M = [] := by
      obtain ⟨A', cap, e, -, -, h4⟩ := hnews w hw
      injection e with e1
      cases M with
      | nil => rfl
      | cons u M =>
        obtain ⟨b, q, e2, -⟩ := h4 (by simp)
        rw [← e1] at e2; cases e2
    subst hM
    have hat' := hat A c
    rw [List.append_nil] at hat'
    refine ⟨(A, c), w, trivial, ?_, ?_, ⟨rfl, rfl, rfl, Nat.le_refl _, fun _ _ _ => rfl⟩⟩
    · subst hm
      rw [List.append_nil]
      exact run_append_op ho (ha.ev hx) (ha.ev hy) (run_append0 sl e o.type A L.length c k ht hs hLc)
    · rw [← hat'.same]; exact hw
end
section
variable {P : Program} {n : Nat} {B : Bs} {Q : Exit → Act → World → Prop} {ops : Array Oper} {l : Sl} {H : List It} {o : Oper} {ld lx : List Nat} {H0 Hx : List It} {fuel : Nat} {listed : Array Bool}
def St1 (P : Program) (n : Nat) (B : Bs) (ops : Array Oper) (Q : Exit → Act → World → Prop) (ld : List Nat) (H0 : List It) (lx : List Nat) (Hx : List It) (fuel : Nat) (listed : Array Bool) (l : Sl) (H : List It) (i : Nat) : Prop :=
  ∀ a w, Fr n l a → Wd B H w → wpOp P ops (NQ Q) i (fun a' w' => (∀ k, frB .any ops i k = true → SR B ld H0 lx Hx k w → SR B ld H0 lx Hx k w') ∧ wpAnyP P .any ops (NQ Q) (SR B ld H0 lx Hx) fuel (listed.setIfInBounds i true) a' w') (B.df a) w
theorem St1_mk {i : Nat} {m : Option It} {T : Type} {φ : T → Prop} {D : T → Sl} {G : T → List It} (hi : ops[i]? = some o) (hW : WN ops n l o true) (h : OpW P n B m l H o φ D G) (hm : Kp ops ld lx Hx H i m)
    (k : ∀ t, φ t → JA P n B ops Q ld H0 lx Hx fuel (listed.setIfInBounds i true) (D t) (G t)) : St1 P n B ops Q ld H0 lx Hx fuel listed l H i := fun a _ ha hw =>
  wpOp_wp hi (hW a ha) (h.go ha hw (fun t a' w' h1 h2 h3 hb => ⟨SR_kept hw hm hb, k t h1 a' w' h2 h3⟩))
theorem JA_three {i j k : Nat} (hr : Region.ready .any ops listed = [i, j, k]) (h1 : St1 P n B ops Q ld H0 lx Hx fuel listed l H i) (h2 : St1 P n B ops Q ld H0 lx Hx fuel listed l H j) (h3 : St1 P n B ops Q ld H0 lx Hx fuel listed l H k) : JA P n B ops Q ld H0 lx Hx (fuel + 1) listed l H := fun a w ha hw =>
  ⟨fun h0 => by (rw [hr] at h0; cases h0), fun q hq => by
    rw [hr] at hq
    simp only [List.mem_cons, List.not_mem_nil, or_false] at hq
    rcases hq with rfl | rfl | rfl
    · exact h1 a w ha hw
    · exact h2 a w ha hw
    · exact h3 a w ha hw⟩
theorem JA_pair {i j : Nat} (hr : Region.ready .any ops listed = [i, j]) (h1 : St1 P n B ops Q ld H0 lx Hx fuel listed l H i) (h2 : St1 P n B ops Q ld H0 lx Hx fuel listed l H j) : JA P n B ops Q ld H0 lx Hx (fuel + 1) listed l H := fun a w ha hw => wpAnyP_two hr (h1 a w ha hw) (h2 a w ha hw)
/-- A slice without elements. -/
theorem ow_slice0 {d k : Nat} {t ty : TypeId} (ho : o.op = .buildSlice t 0 #[]) (hd : o.dst = some d) (hn : Nat.ble n d = false) (hf : ∀ w, (Instr.buildSlice t 0 #[]).run P w = .ok (.slice (some ⟨w.heap.size, 0, none⟩) 0 0) (w.alloc (.cells #[] ty))) :
    OpW P n B none l H o (fun b : Nat => B.w.heap.size ≤ b) (fun b => (d, .slice (some ⟨b, 0, none⟩) 0 0) :: l) (fun b => ownB ty k (some ⟨b, 0, none⟩) 0 0 [] :: H) := fun a w K Q ha hw hK =>
  ow_sliceC (ps := []) (us := []) (vs := []) ho rfl rfl hd hn hf a w K Q ha hw (fun t a' w' h1 h2 h3 h4 => hK t a' w' h1 h2 (h3.asOwn (At.here _) (by rw [Nat.zero_mul]; rfl) (by omega)) h4)
end
end Go.Proofs.YtjkolebffbeeeaaGreatDoor
