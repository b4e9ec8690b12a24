/- Layers of the proofs, joined: Rw Rx Ry Rz R3 Yc Ta Tb Tc Td Te Tf Yd Ye Os. -/
import Derived.Test.YtmcpnoailbmkkaaGreatDoorPk4
import Derived.Test.YtmcpnoailbmkkaaGreatDoorCards
import Derived.Test.YtmcpnoailbmkkaaGreatDoorTie
import Derived.ProofKit
import Derived.LaidMore
import Derived.OpenShut
import Derived.Lay
import Derived.Deep.DeepHandedRow
import Derived.Shelf.Vars
import Derived.Stop.Joined
import Derived.Stop.LaidErr
import Derived.Lib.SmallJoins
/- Layer 7: copied. -/
namespace Go.Proofs.YtmcpnoailbmkkaaGreatDoor
open Go Go.RowKit Go.Proofs
attribute [local irreducible] J JQ JL JA JD

end Go.Proofs.YtmcpnoailbmkkaaGreatDoor
/- Layer 7: an end in memory; Next, take, Pending. -/
namespace Go.Proofs.YtmcpnoailbmkkaaGreatDoor
open Go Go.RowKit Go.Proofs
attribute [local irreducible] J JQ JL JA JD

/-- An end: its code, who throws first, its stones, how many are thrown, the ruling that waits. -/
structure En where
 c : Cd
 fr : Int
 l : List St
 tn : Int
 p : Option (Int × Int × List (List St × Bool))
/-- A ruling that waits, in memory; an end in memory. -/
structure PdM where
 b : Nat
 r : Int
 h : Int
 t : OcT
structure EnM where
 c : Cd
 fr : Int
 l : List St
 sA : Option Addr
 sk : Nat
 tn : Int
 p : Option PdM
def pdA : Option PdM → Option Addr
 | none => none
 | some m => some ⟨m.b, 0, none⟩
def EnM.pl (e : EnM) : En := ⟨e.c, e.fr, e.l, e.tn, e.p.map (fun m => (m.r, m.h, m.t.L.map oP))⟩
abbrev endC (b : Nat) (e : EnM) : It := cellB b [.int .i64 e.c.f, .int .i64 e.c.t, .int .i64 e.c.s, .int .i64 e.c.e, .bool e.c.p, .bool true, .int .i64 e.fr, .slice e.sA e.l.length e.sk, .int .i64 e.tn, .pointer (pdA e.p)] 217
abbrev pdC (m : PdM) : It := cellB m.b [.int .i64 m.r, .int .i64 m.h, .slice m.t.A m.t.L.length m.t.c] 30
def pdI : Option PdM → List It
 | none => []
 | some m => pdC m :: ocI m.t
abbrev endI (b : Nat) (e : EnM) : List It := endC b e :: ownB 43 4 e.sA e.l.length e.sk (e.l.flatMap eT) :: pdI e.p
/-- It is such an end. -/
def EnP (E : En) (e : EnM) : Prop := e.pl = E ∧ ∀ m, e.p = some m → ∀ p ∈ m.t.L, p.d.n = p.d.l.length ∧ p.d.l.length ≤ 16
/-- What an end's numbers keep to. -/
structure EnOk (E : En) : Prop where
 e : 1 ≤ E.c.e ∧ E.c.e ≤ 8
 fr : 0 ≤ E.fr ∧ E.fr ≤ 1
 tn : 0 ≤ E.tn ∧ E.tn ≤ 2 * E.c.e
 l : E.l.length ≤ 16
 p : ∀ r, E.p = some r → E.tn < 2 * E.c.e ∧ (1 < r.2.2.length ∧ r.2.2.length ≤ 3) ∧ ∀ o ∈ r.2.2, o.1.length ≤ 16
/-- What is read of it. -/
structure EndW (w : World) (b : Nat) (e : EnM) : Prop where
 cell : (endC b e).holds w
 row : Arr 4 eT w (.slice e.sA e.l.length e.sk) e.l
 pd : ∀ m, e.p = some m → (pdC m).holds w ∧ Arr 2 eO w (.slice m.t.A m.t.L.length m.t.c) m.t.L ∧ ∀ p ∈ m.t.L, OcW w p
theorem ocI_w {w : World} {t : OcT} (h : ∀ A ∈ ocI t, A.holds w) (hn : ∀ p ∈ t.L, p.d.n = p.d.l.length ∧ p.d.l.length ≤ 16) (hl : t.L.length ≤ 1000) : Arr 2 eO w (.slice t.A t.L.length t.c) t.L ∧ ∀ p ∈ t.L, OcW w p := by
 refine ⟨Arr.of_own EO (h (ownB 175 2 t.A t.L.length t.c (t.L.flatMap eO)) (by simp)) (by omega), fun p hp => ?_⟩
 have h1 : (grpB (t.L.map rwB)).holds w := h _ (by simp)
 have h2 : (rwB p).holds w := h1.1 _ (List.mem_map.2 ⟨p, hp, rfl⟩)
 have h3 : w.ownsRow 0 43 4 (.slice p.d.A p.d.n p.d.c) p.d.n (p.d.l.flatMap eT) := h2
 have h4 := (hn p hp).1
 unfold OcW Dv.v
 rw [h4] at h3 ⊢
 exact Arr.of_own ET h3 (by have := (hn p hp).2; omega)
theorem EndW.of {w : World} {b : Nat} {e : EnM} {E : En} (h : ∀ A ∈ endI b e, A.holds w) (hp : EnP E e) (hok : EnOk E) : EndW w b e := by
 obtain ⟨rfl, hn⟩ := hp
 refine ⟨h (endC b e) (by simp), Arr.of_own ET (h (ownB 43 4 e.sA e.l.length e.sk (e.l.flatMap eT)) (by simp)) (by have := hok.l; dsimp only [EnM.pl] at this; omega), fun m hm => ?_⟩
 have h1 : ∀ A ∈ pdC m :: ocI m.t, A.holds w := fun A hA => h A (List.mem_cons_of_mem _ (List.mem_cons_of_mem _ (by rw [hm]; exact hA)))
 have h2 := (hok.p (m.r, m.h, m.t.L.map oP) (by unfold EnM.pl; rw [hm]; rfl)).2.1
 rw [List.length_map] at h2
 exact ⟨h1 (pdC m) (by simp), ocI_w (fun A hA => h1 A (List.mem_cons_of_mem _ hA)) (hn m hm) (by omega)⟩
theorem EndW.up {w w' : World} {b : Nat} {e : EnM} (h : EndW w b e) (hb : Below w.heap.size w w') : EndW w' b e :=
 ⟨It.up_cell h.cell hb, h.row.up ET hb, fun m hm => ⟨It.up_cell (h.pd m hm).1 hb, (h.pd m hm).2.1.up EO hb, fun p hp => ((h.pd m hm).2.2 p hp).up hb⟩⟩
end Go.Proofs.YtmcpnoailbmkkaaGreatDoor
/- Layer 7: New, Throw, Choose. -/
namespace Go.Proofs.YtmcpnoailbmkkaaGreatDoor
open Go Go.RowKit Go.Proofs
attribute [local irreducible] J JQ JL JA JD

end Go.Proofs.YtmcpnoailbmkkaaGreatDoor
/- Layer 7: Choose; no end. -/
namespace Go.Proofs.YtmcpnoailbmkkaaGreatDoor
open Go Go.RowKit Go.Proofs
attribute [local irreducible] J JQ JL JA JD

end Go.Proofs.YtmcpnoailbmkkaaGreatDoor
/- Layer 7, in plain Lean: rulings and ends of mirrored throws, and of throws with the teams exchanged. (Carried over from wip/rules.) -/
namespace Go.Proofs.YtmcpnoailbmkkaaGreatDoor
open Go Go.RowKit Go.Proofs
theorem goodF_iff : ∀ (l pre : List St), goodF pre l = true ↔ (∀ s ∈ l, okSt s) ∧ (∀ a ∈ pre, ∀ b ∈ l, nameB a b = false) ∧ l.Pairwise (fun a b => nameB a b = false)
 | [], pre => by simp [goodF]
 | s :: r, pre => by
  unfold goodF
  rw [Bool.and_eq_true, Bool.and_eq_true, goodF_iff r (pre ++ [s]), List.all_eq_true, List.pairwise_cons]
  simp only [decide_eq_true_eq, List.mem_cons, List.mem_append, List.not_mem_nil, or_false, Bool.not_eq_true']
  constructor
  ·rintro ⟨⟨h1, h2⟩, h3, h4, h5⟩
   refine ⟨?_, ?_, fun b hb => h4 s (.inr rfl) b hb, h5⟩
   ·rintro x (rfl | hx)
    ·exact h1
    ·exact h3 x hx
   ·rintro a ha b (rfl | hb)
    ·exact h2 a ha
    ·exact h4 a (.inl ha) b hb
  ·rintro ⟨h1, h2, h3, h4⟩
   refine ⟨⟨h1 s (.inl rfl), fun a ha => h2 a ha s (.inl rfl)⟩, fun x hx => h1 x (.inr hx), ?_, h4⟩
   rintro a (ha | rfl) b hb
   ·exact h2 a ha b (.inr hb)
   ·exact h3 b hb
theorem fidx_neg {α : Type} (p : α → Bool) (l : List α) : fidx p l < 0 ↔ ∀ x ∈ l, p x = false := by
 unfold fidx
 split
 ·rename_i h
  constructor
  ·intro h1; omega
  ·intro h1
   have := List.findIdx_getElem (w := h)
   rw [h1 _ (List.getElem_mem h)] at this; cases this
 ·rename_i h
  constructor
  ·intro _ x hx
   cases e : p x
   ·rfl
   ·exact absurd (List.findIdx_lt_length_of_exists ⟨x, hx, e⟩) h
  ·intro _; omega
theorem pairF_iff {α : Type} (h : α → α → Bool) : ∀ (l : List α) (i : Nat), (pairF h l i).1 < 0 ↔ l.Pairwise (fun a b => h a b = false)
 | [], i => by simp [pairF]
 | a :: l, i => by
  unfold pairF
  rw [List.pairwise_cons, ← fidx_neg]
  split
  ·rename_i h0
   constructor
   ·intro h1; simp only at h1; omega
   ·rintro ⟨h1, -⟩; omega
  ·rename_i h0
   rw [pairF_iff h l (i + 1)]
   exact ⟨fun h1 => ⟨by omega, h1⟩, fun h1 => h1.2⟩
/-- What a valid position is. -/
theorem chk_iff (l : List St) : chkB l = true ↔ l.length ≤ 16 ∧ (∀ s ∈ l, okSt s) ∧ l.Pairwise (fun a b => nameB a b = false) ∧ l.Pairwise (fun a b => ovB a b = false) := by
 unfold chkB
 rw [Bool.and_eq_true, Bool.and_eq_true, decide_eq_true_eq, decide_eq_true_eq, goodF_iff, pairF_iff]
 constructor
 ·rintro ⟨⟨h1, h2, -, h3⟩, h4⟩; exact ⟨h1, h2, h3, h4⟩
 ·rintro ⟨h1, h2, h3, h4⟩; exact ⟨⟨h1, h2, fun a ha => (by cases ha), h3⟩, h4⟩
/-- A change of stones that keeps what counts for a position. -/
structure Keeps (f : St → St) : Prop where
  ok : ∀ s, okSt (f s) ↔ okSt s
  nm : ∀ a b, okSt a → okSt b → nameB (f a) (f b) = nameB a b
  ov : ∀ a b, ovB (f a) (f b) = ovB a b
theorem chk_map {f : St → St} (hf : Keeps f) (l : List St) : chkB (l.map f) = chkB l := by
  rw [Bool.eq_iff_iff, chk_iff, chk_iff, List.length_map, List.pairwise_map, List.pairwise_map]
  constructor
  · rintro ⟨h1, h2, h3, h4⟩
    have ho : ∀ s ∈ l, okSt s := fun s hs => (hf.ok s).1 (h2 _ (List.mem_map_of_mem hs))
    exact ⟨h1, ho, h3.imp_of_mem (fun {a b} ha hb h => by rw [← hf.nm a b (ho a ha) (ho b hb)]; exact h), h4.imp (fun {a b} h => by rw [← hf.ov]; exact h)⟩
  · rintro ⟨h1, h2, h3, h4⟩
    refine ⟨h1, ?_, h3.imp_of_mem (fun {a b} ha hb h => by rw [hf.nm a b (h2 a ha) (h2 b hb)]; exact h), h4.imp (fun {a b} h => by rw [hf.ov]; exact h)⟩
    intro s hs
    obtain ⟨x, hx, rfl⟩ := List.mem_map.1 hs
    exact (hf.ok x).2 (h2 x hx)
theorem look_find {l : List St} (hd : dis l) (t n : Int) : lookT l t n = l.find? (isB t n) := by
  have H : ∀ k, k ≤ l.length → lookT (l.take k) t n = (l.take k).find? (isB t n) := by
    intro k
    induction k with
    | zero => intro _; simp [lookT]
    | succ k ih =>
      intro hk
      have hlt : k < l.length := by omega
      rw [List.take_succ_eq_append_getElem hlt, lookT_snoc, List.find?_append, ih (by omega)]
      by_cases h : eqK (l[k]'hlt).t (l[k]'hlt).n t n = true
      · rw [if_pos h]
        have h' := (eqK_iff _ _ _ _).1 h
        cases hf : (l.take k).find? (isB t n) with
        | none => simp [(isB_iff t n _).2 h']
        | some s' =>
          have h2 := List.mem_of_mem_take (List.mem_of_find?_eq_some hf)
          have h3 := (isB_iff _ _ _).1 (List.find?_some hf)
          rw [hd s' h2 _ (List.getElem_mem hlt) (by rw [h3.1, h'.1]) (by rw [h3.2, h'.2])]
          rfl
      · rw [if_neg h]
        have hb : isB t n (l[k]'hlt) = false := by
          cases e : isB t n (l[k]'hlt)
          · rfl
          · exact absurd ((eqK_iff _ _ _ _).2 ((isB_iff _ _ _).1 e)) h
        simp [hb]
  have := H l.length (Nat.le_refl _)
  rwa [List.take_length] at this
/-- A change of stones and teams under which rulings go along. -/
structure Sym (f : St → St) (τ : Int → Int) : Prop where
  keep : Keeps f
  inv : ∀ s, f (f s) = s
  ht : ∀ s, (f s).t = τ s.t
  hn : ∀ s, (f s).n = s.n
  inj : ∀ a b, τ a = τ b ↔ a = b
  rg : ∀ a, (0 ≤ τ a ∧ τ a ≤ 1) ↔ (0 ≤ a ∧ a ≤ 1)
  hzn : ∀ s, zn (f s).x (f s).y = zn s.x s.y
  hce : ∀ s, cen (f s) = cen s
section
variable {f : St → St} {τ : Int → Int} (F : Sym f τ)
include F
theorem Sym.bndF {l : List St} (h : chkB l = true) : ∀ s ∈ l.map f, bnd s := chk_bnd (by rw [chk_map F.keep]; exact h)
end
section
variable {f : St → St} {τ : Int → Int} (F : Sym f τ)
include F
end
end Go.Proofs.YtmcpnoailbmkkaaGreatDoor
/- Across layers, a rule book: what it says, in plain Lean. -/
namespace Go.Proofs.YtmcpnoailbmkkaaGreatDoor
open Go Go.RowKit Go.Proofs
attribute [local irreducible] J JQ JL JA JD

/-- Where the parts of a clause lie. -/
abbrev Ad : Type := (Option Addr × Nat × Nat) × (Option Addr × Nat × Nat)
def toC (p : ClP) (a : Ad) : Cl := ⟨p.n, p.f, p.t, ⟨a.1.1, a.1.2.1, a.1.2.2, p.fs⟩, ⟨a.2.1, a.2.2.1, a.2.2.2, p.us⟩, p.th⟩
def adC (c : Cl) : Ad := ((c.fs.A, c.fs.n, c.fs.c), (c.us.A, c.us.n, c.us.c))
theorem to_ad (c : Cl) : toC (clP c) (adC c) = c := rfl
def bkZ (p : List ClP) (a : List Ad) : List Cl := List.zipWith toC p a
theorem bkZ_of : ∀ (L : List Cl), bkZ (L.map clP) (L.map adC) = L
 | [] => rfl
 | c :: L => by
  have h := bkZ_of L
  unfold bkZ at h ⊢
  rw [List.map_cons, List.map_cons, List.zipWith_cons_cons, h, to_ad]
/-- The facts of a throw. -/
def facF (b0 b1 b2 b3 b4 b5 b6 b7 sf : Bool) : List ByteArray := (((((((cond b0 [nm0] [] ++ cond b1 [nm1] []) ++ cond b2 [nm2] []) ++ cond b3 [nm3] []) ++ cond b4 [nm4] []) ++ cond b5 [nm5] []) ++ cond b6 [nm6] []) ++ cond b7 [nm7] []) ++ cond sf [sfS] []
/-- The rule by the facts. -/
def rulN (b0 b1 b2 b3 b4 b5 b6 b7 sf : Bool) : Nat := cond b0 1 (cond b1 2 (cond b2 3 (cond b3 4 (cond b4 5 (cond b5 6 (cond (b6 && !sf) 7 (cond b6 8 (cond b7 9 0))))))))
def isN {α : Type} : Option α → Bool
 | none => true
 | some _ => false
def okP (x : ByteArray) (p : Option Nat × List ByteArray) : Bool := isN p.1 && decide (x ∈ p.2)
theorem okP_of {x : ByteArray} {p : Option Nat × List ByteArray} (h : okP x p = true) : prvV x p = .tuple #[.bool true, .int .i64 (-1), .int .i64 0] := by
 obtain ⟨o, K⟩ := p
 unfold okP at h
 rw [Bool.and_eq_true] at h
 cases o with
 | none => show Value.tuple #[.bool (decide (x ∈ K)), .int .i64 (-1), .int .i64 0] = _; rw [show decide (x ∈ K) = true from h.2]
 | some k => cases h.1
/-- The one step of a rule's proof. -/
def stpL (r : Nat) : List Int := [if r = 0 then 9 else if r ≤ 6 then (r : Int) - 1 else if r = 7 then 7 else if r = 8 then 6 else 8]
def tst (Bk : List Cl) (F : List ByteArray) (r : Nat) : Bool := isN (hldQ Bk 1 F) && ((List.range 10).all fun i => decide (ruS i ∈ (hldM Bk 1 F).S) == Nat.beq i r) && isN (whyQ Bk 1 F (ruS r)) && decide (whyP Bk (hldM Bk 1 F) (ruS r) = stpL r) && isN (prvQ Bk 1 F (ruS r) (whyP Bk (hldM Bk 1 F) (ruS r))) && okP (ruS r) (prv Bk 1 (hldM Bk 1 F).S (whyP Bk (hldM Bk 1 F) (ruS r)) 0 F.reverse)
def allB (f : Bool → Bool) : Bool := f true && f false
theorem allB_of {f : Bool → Bool} (h : allB f = true) (b : Bool) : f b = true := by
 unfold allB at h
 rw [Bool.and_eq_true] at h
 cases b
 ·exact h.2
 ·exact h.1
set_option maxRecDepth 100000 in
theorem tst_all (a0 a1 a2 a3 a4 a5 a6 a7 a8 a9 : Ad) : (allB fun b0 => allB fun b1 => allB fun b2 => allB fun b3 => allB fun b4 => allB fun b5 => allB fun b6 => allB fun b7 => allB fun sf => tst (bkZ bkA [a0, a1, a2, a3, a4, a5, a6, a7, a8, a9]) (facF b0 b1 b2 b3 b4 b5 b6 b7 sf) (rulN b0 b1 b2 b3 b4 b5 b6 b7 sf)) = true := by kernel_rfl
theorem isN_of {α : Type} {x : Option α} (h : isN x = true) : x = none := by
 cases x
 ·rfl
 ·cases h
theorem len_ten {α : Type} {l : List α} (h : l.length = 10) : ∃ a0 a1 a2 a3 a4 a5 a6 a7 a8 a9, l = [a0, a1, a2, a3, a4, a5, a6, a7, a8, a9] := by
 match l, h with
 | [a0, a1, a2, a3, a4, a5, a6, a7, a8, a9], _ => exact ⟨a0, a1, a2, a3, a4, a5, a6, a7, a8, a9, rfl⟩
/-- What the book says. -/
theorem bk_law {L : List Cl} (h : L.map clP = bkA) (b0 b1 b2 b3 b4 b5 b6 b7 sf : Bool) : hldQ L 1 (facF b0 b1 b2 b3 b4 b5 b6 b7 sf) = none ∧ (∀ i, i < 10 → decide (ruS i ∈ (hldM L 1 (facF b0 b1 b2 b3 b4 b5 b6 b7 sf)).S) = Nat.beq i (rulN b0 b1 b2 b3 b4 b5 b6 b7 sf)) ∧ whyQ L 1 (facF b0 b1 b2 b3 b4 b5 b6 b7 sf) (ruS (rulN b0 b1 b2 b3 b4 b5 b6 b7 sf)) = none ∧
  whyP L (hldM L 1 (facF b0 b1 b2 b3 b4 b5 b6 b7 sf)) (ruS (rulN b0 b1 b2 b3 b4 b5 b6 b7 sf)) = stpL (rulN b0 b1 b2 b3 b4 b5 b6 b7 sf) ∧ prvR L 1 (facF b0 b1 b2 b3 b4 b5 b6 b7 sf) (ruS (rulN b0 b1 b2 b3 b4 b5 b6 b7 sf)) (stpL (rulN b0 b1 b2 b3 b4 b5 b6 b7 sf)) = .tuple #[.bool true, .int .i64 (-1), .int .i64 0] := by
 have hl : (L.map adC).length = 10 := by
  have h1 := congrArg List.length h
  rw [List.length_map] at h1 ⊢
  rw [h1]; rfl
 have e := bkZ_of L
 obtain ⟨a0, a1, a2, a3, a4, a5, a6, a7, a8, a9, ha⟩ := len_ten hl
 rw [h, ha] at e
 have t := allB_of (allB_of (allB_of (allB_of (allB_of (allB_of (allB_of (allB_of (allB_of (tst_all a0 a1 a2 a3 a4 a5 a6 a7 a8 a9) b0) b1) b2) b3) b4) b5) b6) b7) sf
 rw [e] at t
 unfold tst at t
 simp only [Bool.and_eq_true] at t
 obtain ⟨⟨⟨⟨⟨t1, t2⟩, t3⟩, t4⟩, t5⟩, t6⟩ := t
 refine ⟨isN_of t1, fun i hi => ?_, isN_of t3, of_decide_eq_true t4, by rw [← of_decide_eq_true t4]; unfold prvR; rw [isN_of t5]; exact okP_of t6⟩
 have := List.all_eq_true.1 t2 i (List.mem_range.2 hi)
 exact eq_of_beq this
/-- The facts so far. -/
def facT (bl : List Bool) : Nat → List ByteArray
 | 0 => []
 | k + 1 => facT bl k ++ cond (bl.getD k false) [nmL.getD k lnS] []
theorem facT_all (b0 b1 b2 b3 b4 b5 b6 b7 sf : Bool) : facT [b0, b1, b2, b3, b4, b5, b6, b7] 8 ++ cond sf [sfS] [] = facF b0 b1 b2 b3 b4 b5 b6 b7 sf := by
 unfold facF
 simp [facT]
theorem facT_len (bl : List Bool) : ∀ k, (facT bl k).length ≤ k
 | 0 => Nat.le_refl _
 | k + 1 => by
  have := facT_len bl k
  unfold facT
  cases bl.getD k false <;> simp <;> omega
theorem mem_cond {b : Bool} {s x : ByteArray} (h : s ∈ cond b [x] []) : s = x := by
 cases b
 ·cases h
 ·exact List.mem_singleton.1 h
theorem facF_ok (b0 b1 b2 b3 b4 b5 b6 b7 sf : Bool) : ∀ s ∈ facF b0 b1 b2 b3 b4 b5 b6 b7 sf, okS s := fun s hs => by
 unfold facF at hs
 simp only [List.mem_append] at hs
 rcases hs with (((((((hs | hs) | hs) | hs) | hs) | hs) | hs) | hs) | hs
 all_goals (rw [mem_cond hs]; exact ok_lit2 (by decide))
/-- Stones that fit, by where they lie. -/
theorem wh_any (p r : St → Bool) (l : List St) : (whN p l l.length).any (fun i => r (l.getD i.toNat ⟨0, 0, 0, 0⟩)) = l.any (fun s => p s && r s) := by
 have e : (List.range l.length).map (fun i => l.getD i ⟨0, 0, 0, 0⟩) = l := by
  refine List.ext_getElem (by simp) (fun i h1 h2 => ?_)
  simp [h2]
 have e2 : l.any (fun s => p s && r s) = (List.range l.length).any (fun i => p (l.getD i ⟨0, 0, 0, 0⟩) && r (l.getD i ⟨0, 0, 0, 0⟩)) := by
  conv => lhs; rw [← e]
  rw [List.any_map]; rfl
 rw [e2]
 unfold whN
 rw [List.any_map, List.any_filter]
 rfl
theorem wh_in {p : St → Bool} {l : List St} {k : Nat} (h : k < (whN p l l.length).length) : ∃ j : Nat, (whN p l l.length)[k]'h = (j : Nat) ∧ j < l.length := by
 have hm : (whN p l l.length)[k]'h ∈ whN p l l.length := List.getElem_mem _
 unfold whN at hm
 obtain ⟨j, hj, e⟩ := List.mem_map.1 hm
 exact ⟨j, e.symm, List.mem_range.1 (List.mem_filter.1 hj).1⟩
theorem any_tk {α : Type} (g : α → Bool) {l : List α} {k : Nat} (h : k < l.length) : (l.take (k + 1)).any g = ((l.take k).any g || g (l[k]'h)) := by
 rw [List.take_succ_eq_append_getElem h, List.any_append]; simp
def rmQ (m : List St) (s : St) : Bool := decide (fidx (isB s.t s.n) m < 0)
def mvQ (m : List St) (s : St) : Bool := match m.find? (isB s.t s.n) with
 | none => false
 | some y => !cen y
theorem look_none {m : List St} {t n : Int} : fidx (isB t n) m < 0 ↔ m.find? (isB t n) = none := by
 rw [fidx_neg, List.find?_eq_none]
 exact ⟨fun h x hx => by rw [h x hx]; decide, fun h x hx => Bool.eq_false_iff.2 (h x hx)⟩
theorem rem_q {c : Cd} {n team : Int} {m l : List St} (hd : dis m) : (whN (kpB c n team) l l.length).any (fun i => rmQ m (l.getD i.toNat ⟨0, 0, 0, 0⟩)) = remB c n team m l := by
 rw [wh_any]
 unfold remB
 congr 1
 funext s
 rw [look_find hd, Bool.and_comm]
 congr 1
 unfold rmQ
 cases h : m.find? (isB s.t s.n) with
 | none => rw [decide_eq_true (look_none.2 h)]; rfl
 | some y => rw [decide_eq_false (fun h1 => by rw [look_none.1 h1] at h; cases h)]; rfl
theorem mov_q {c : Cd} {n team : Int} {m l : List St} (hd : dis m) : (whN (fxB c n team) l l.length).any (fun i => mvQ m (l.getD i.toNat ⟨0, 0, 0, 0⟩)) = movB c n team m l := by
 rw [wh_any]
 unfold movB
 congr 1
 funext s
 rw [look_find hd]
 unfold mvQ
 cases h : m.find? (isB s.t s.n) with
 | none => simp
 | some y => simp
theorem rul_n9 (x : Th) (rm mv sf : Bool) : rulF x rm mv sf = ((rulN x.late (decide (x.how = 1)) x.short (decide (x.how = 3)) (decide (x.how = 2)) (decide (x.how = 4)) rm mv sf : Nat) : Int) := by
 have key : ∀ b0 b1 b2 b3 b4 b5 b6 b7 sf : Bool, rulG (fun k => match k with | 0 => b0 | 1 => b1 | 2 => b2 | 3 => b3 | 4 => b4 | 5 => b5 | 6 => b6 && !sf | 7 => b6 | 8 => b7 | _ => false) 9 0 = ((rulN b0 b1 b2 b3 b4 b5 b6 b7 sf : Nat) : Int) := by decide
 rw [← key]
 unfold rulF
 congr 1
theorem rulN_lt : ∀ b0 b1 b2 b3 b4 b5 b6 b7 sf : Bool, rulN b0 b1 b2 b3 b4 b5 b6 b7 sf < 10 := by decide

end Go.Proofs.YtmcpnoailbmkkaaGreatDoor
/- Layer 2: the stones in the house. -/
namespace Go.Proofs.YtmcpnoailbmkkaaGreatDoor
open Go Go.RowKit Go.Proofs
attribute [local irreducible] J JQ JL JA JD

/-- Numbers that are not negative, as elements. -/
def eN (n : Nat) : List Value := [.int .i64 (n : Nat)]
theorem EN : Enc 1 eN := ⟨fun _ => rfl, fun x v h => by simp [eN] at h; subst h; rfl⟩
/-- The places, among the first k, of the stones in the house. -/
def hsN (l : List St) (k : Nat) : List Nat := (List.range k).filter (fun i => decide (InH (l.getD i ⟨0, 0, 0, 0⟩).x (l.getD i ⟨0, 0, 0, 0⟩).y))
theorem hsN_s {l : List St} {k : Nat} {x : St} (hk : k < l.length) (hx : l[k]'hk = x) : hsN l (k + 1) = if InH x.x x.y then hsN l k ++ [k] else hsN l k := by
 unfold hsN
 rw [List.range_succ, List.filter_append, List.filter_cons, List.filter_nil]
 have e : l.getD k ⟨0, 0, 0, 0⟩ = x := by rw [List.getD_eq_getElem?_getD, List.getElem?_eq_getElem hk, hx]; rfl
 rw [e]
 by_cases h : InH x.x x.y
 ·rw [if_pos h, decide_eq_true h, if_pos rfl]
 ·rw [if_neg h, decide_eq_false h, if_neg (by decide), List.append_nil]
theorem hsN_len (l : List St) (k : Nat) : (hsN l k).length ≤ k := Nat.le_trans (List.length_filter_le _ _) (by rw [List.length_range]; exact Nat.le_refl _)
theorem hsN_pre (l : List St) {k n : Nat} (h : k ≤ n) : hsN l k <+: hsN l n := by
 induction n with
 | zero => rw [Nat.le_zero.1 h]; exact List.prefix_refl _
 | succ n ih =>
  rcases Nat.lt_or_ge k (n + 1) with h1 | h1
  ·refine (ih (by omega)).trans ?_
   unfold hsN
   rw [List.range_succ, List.filter_append]
   exact List.prefix_append _ _
  ·obtain rfl : k = n + 1 := by omega
   exact List.prefix_refl _
/-- All of them. -/
def hsA (l : List St) : List Nat := hsN l l.length
theorem hsA_at {l : List St} {k : Nat} {x : St} (hk : k < l.length) (hx : l[k]'hk = x) (hi : InH x.x x.y) : (hsN l k).length < (hsA l).length ∧ (hsA l)[(hsN l k).length]? = some k := by
 have h1 := hsN_pre l (show k + 1 ≤ l.length by omega)
 rw [hsN_s hk hx, if_pos hi] at h1
 have h2 := h1.length_le
 rw [List.length_append] at h2
 have h3 : (hsN l k).length < (hsA l).length := Nat.lt_of_lt_of_le (Nat.lt_succ_self _) h2
 refine ⟨h3, ?_⟩
 obtain ⟨r, hr⟩ := h1
 unfold hsA
 rw [← hr, List.append_assoc, List.getElem?_append_right (Nat.le_refl _), Nat.sub_self]; rfl
theorem hs_mem {l : List St} {i k : Nat} (h : i ∈ hsN l k) : i < k ∧ InH (l.getD i ⟨0, 0, 0, 0⟩).x (l.getD i ⟨0, 0, 0, 0⟩).y := by
 unfold hsN at h
 rw [List.mem_filter, List.mem_range] at h
 exact ⟨h.1, of_decide_eq_true h.2⟩
/-- The state of a loop over them: how many were given; a row. -/
structure HsT where
 n : Nat
 A : Option Addr
 c : Nat
abbrev hsX (l : List St) (n : Nat) : List Nat := (hsA l).take n
set_option maxRecDepth 100000 in
set_option maxHeartbeats 4000000 in
theorem housed_any (A : Option Addr) (n cap : Nat) (w : World) : Calls Tryz.prog 114 #[.slice A n cap] w (Ret w (fun _ : Nat => True) (fun b => .func (.func 170) #[] #[.pointer (some ⟨b, 0, none⟩)]) (fun b => [cellB b [.slice A n cap] 24])) := by
 refine J_enter (fun _ => False) (vs := [.slice A n cap]) (k := 3) (l := [(0, .slice A n cap)]) Tryz.func114 rfl rfl Tryz.ntmps114 rfl rfl (Wd.start _) ?_
 refine s2 ?_
 refine aW (oX [_]) (fun b1 hb1 => ?_)
 refine s10 ?_
 refine JR_one rfl (rr_tmp rfl) ?_
 intro w' hw
 exact ⟨b1, trivial, rfl, hw.pick (by repeat constructor)⟩
set_option maxRecDepth 100000 in
set_option maxHeartbeats 4000000 in
theorem housed1_any (l : List St) (A : Option Addr) (cap bh b3 : Nat) (w0 : World) (E1 : It) (hrow : Arr 4 eT w0 (.slice A l.length cap) l) (hok : ∀ s ∈ l, OkS s.x s.y) : Itr2 Tryz.prog (T := HsT) (Y := Nat × St) 170 #[.pointer (some ⟨bh, 0, none⟩)] ⟨w0, fun _ => False, none, []⟩ (fun t => t.n ≤ (hsA l).length) (fun t X => [cellB bh [.slice A l.length cap] 24, E1, cellB b3 [.slice t.A (hsX l t.n).length t.c] 34, ownB 3 1 t.A (hsX l t.n).length t.c ((hsX l t.n).flatMap eN), X]) (fun t y => (hsA l)[t.n]? = some y.1 ∧ l[y.1]? = some y.2) (fun y => .int .i64 (y.1 : Nat)) (fun y => Stv y.2) (fun t _ X => [cellB bh [.slice A l.length cap] 24, E1, cellB b3 [.slice t.A (hsX l t.n).length t.c] 34, ownB 3 1 t.A (hsX l t.n).length t.c ((hsX l t.n).flatMap eN), X]) (fun t t' => t'.n = t.n + 1) (fun t => t.n = (hsA l).length) (fun t => t.n = 0) := by
 intro lp X t0 W h0 hn0 hW hY
 obtain ⟨A', cap', e0, -, ⟨hl, -⟩, hAl⟩ := hrow
 obtain ⟨rfl, -, rfl⟩ : A = A' ∧ True ∧ cap = cap' := by injection e0 with e1 _ e3; exact ⟨e1, trivial, e3⟩
 refine J_start (B := ⟨w0, fun _ => False, none, []⟩) rfl rfl (vs := [.func (.yield lp) #[] #[], .pointer (some ⟨bh, 0, none⟩)]) (k := 22) (l := [(0, .func (.yield lp) #[] #[]), (1, .pointer (some ⟨bh, 0, none⟩))]) Tryz.func170 rfl rfl Tryz.ntmps170 rfl rfl (hW) ?_
 refine s8 ?_
 refine xL (T := Nat × HsT) (fun q => q.1 ≤ l.length ∧ (hsN l q.1).length = q.2.n ∧ q.2.n ≤ (hsA l).length) (fun q => [(0, .func (.yield lp) #[] #[]), (5, .slice A l.length cap), (6, .int .i64 (l.length : Nat)), (7, .int .i64 (q.1 : Nat))]) (fun q => [cellB bh [.slice A l.length cap] 24, E1, cellB b3 [.slice q.2.A (hsX l q.2.n).length q.2.c] 34, ownB 3 1 q.2.A (hsX l q.2.n).length q.2.c ((hsX l q.2.n).flatMap eN), X]) (fun q => l.length - q.1) (0, t0) ⟨Nat.zero_le _, by rw [hn0]; rfl, h0⟩ ?_
 rintro q ⟨hq1, hq2, hq3⟩
 obtain ⟨k, hk⟩ : ∃ k, q.1 = k := ⟨_, rfl⟩
 rw [hk] at hq1 hq2 ⊢
 refine s3 ?_
 refine JL_dec (fun h8 => ?_) (fun h8 => ?_)
 ·refine s9 ?_
  have hltx : k < l.length := by omega
  obtain ⟨bx, qx, rfl, hh⟩ := hAl (by intro e; subst e; simp at hltx)
  obtain ⟨⟨xt, xn, xx, xy⟩, hx⟩ : ∃ y, l[k]'hltx = y := ⟨_, rfl⟩
  have hmx : (⟨xt, xn, xx, xy⟩ : St) ∈ l := by rw [← hx]; exact List.getElem_mem _
  refine s3 ?_
  refine aV (vHoldA (cs := [.int .i64 xt, .int .i64 xn, .int .i64 xx, .int .i64 xy]) ET rfl rfl (fun h => h) hh hltx (by rw [hx]; rfl)) ?_
  refine aW oA (fun b4 hb4 => ?_)
  refine s5 ?_
  by_cases hin : InH xx xy
  ·refine kJ [(0, _), (3, _), (4, _), (5, _), (6, _), (7, _)] ?_
   refine J_regI ?_
   refine iV (RP.rv pAny) ?_
   refine iV vAny ?_
   refine iC (ecF rfl rfl) (fun w hw => zone_any xx xy (hok _ hmx) w) ?_
   refine iV (RP.rv gBin) ?_
   refine iKT ((zone_house xx xy).2 hin) ?_
   refine iV (RP.rv (rp_move rfl rfl)) ?_
   refine iV (RP.rv (rp_move rfl rfl)) ?_
   refine iV (RP.rv (rp_move rfl rfl)) ?_
   refine iV vAny ?_
   refine iY2 (T := HsT) (φ := fun t' => t'.n = q.2.n + 1 ∧ t'.n ≤ (hsA l).length) (HH := fun t' => [cellB bh [.slice (some ⟨bx, qx, none⟩) l.length cap] 24, E1, cellB b3 [.slice t'.A (hsX l t'.n).length t'.c] 34, ownB 3 1 t'.A (hsX l t'.n).length t'.c ((hsX l t'.n).flatMap eN), X]) (fun W1 hW1 m => YieldAt.mono' (hY q.2 (k, (⟨xt, xn, xx, xy⟩ : St)) W1 hq3 ⟨by dsimp only; rw [← hq2]; exact (hsA_at hltx hx hin).2, by dsimp only; rw [List.getElem?_eq_getElem hltx, hx]⟩ (hW1.pick (by repeat constructor)) m) (fun e W2 h => ⟨h.1, h.2.imp fun t' h => ⟨⟨h.1, h.2.1⟩, h.2.2⟩⟩)) (fun t' ht' => ?_)
   obtain ⟨hRn, ht2⟩ := ht'
   refine iV (RP.rv (pNot rfl rfl)) ?_
   refine iV (RP.rv pAny) ?_
   refine iN ?_
   refine s5 ?_
   refine kJ [(0, _), (5, _), (6, _), (7, _)] ?_
   refine s4 ?_
   have hs := hsN_s hltx hx
   rw [if_pos hin] at hs
   exact xR (k + 1, t') ⟨by dsimp only; omega, by dsimp only; rw [hs, List.length_append, hRn, hq2]; rfl, ht2⟩ (by dsimp only; omega) (hl := ⟨rfl, rfl, rfl, (congrArg some (by go_num)), trivial⟩)
  ·refine kJ [(0, _), (3, _), (4, _), (5, _), (6, _), (7, _)] ?_
   refine s3 ?_
   refine aCB (fun w hw => zone_any xx xy (hok _ hmx) w) ?_
   refine s1 ?_
   refine aDecF ?_ (fun h => hin ((zone_house xx xy).1 h))
   refine s13 ?_
   refine kJ [(0, _), (5, _), (6, _), (7, _)] ?_
   refine s4 ?_
   have hs := hsN_s hltx hx
   rw [if_neg hin] at hs
   exact xR (k + 1, q.2) ⟨by dsimp only; omega, by dsimp only; rw [hs]; exact hq2, hq3⟩ (by dsimp only; omega) (hl := ⟨rfl, rfl, rfl, (congrArg some (by go_num)), trivial⟩)
 ·refine s8 ?_
  refine JR_end rfl ?_
  intro w' hw
  obtain rfl : k = l.length := by omega
  exact ⟨⟨_, rfl⟩, q.2, hq3, hq2.symm, hw.pick (by repeat constructor)⟩
end Go.Proofs.YtmcpnoailbmkkaaGreatDoor
/- Layer 2: the nearest stones. -/
namespace Go.Proofs.YtmcpnoailbmkkaaGreatDoor
open Go Go.RowKit Go.Proofs
attribute [local irreducible] J JQ JL JA JD

/-- The square of the distance of a stone by its place. -/
def sqAt (l : List St) (i : Nat) : Int := sqd (l.getD i ⟨0, 0, 0, 0⟩).x (l.getD i ⟨0, 0, 0, 0⟩).y
theorem sqAt_get {l : List St} {i : Nat} {x : St} (h : i < l.length) (hx : l[i]'h = x) : sqAt l i = sqd x.x x.y := by
 unfold sqAt; rw [List.getD_eq_getElem?_getD, List.getElem?_eq_getElem h, hx]; rfl
def cmp3 (a b : Int) : Int := if a < b then -1 else if b < a then 1 else 0
/-- Nearer, or as near and earlier. -/
def lx (key : Nat → Int) (a b : Nat) : Prop := key a < key b ∨ (key a = key b ∧ a < b)
theorem lx_trans {key : Nat → Int} {a b c : Nat} (h : lx key a b) (h' : lx key b c) : lx key a c := by unfold lx at *; omega
theorem swap_list {P R : List Nat} {p x : Nat} : ((P ++ p :: x :: R).set (P.length + 1) p).set P.length x = P ++ x :: p :: R := by
  rw [List.set_append_right _ _ (by omega)]
  have e : P.length + 1 - P.length = 1 := by omega
  rw [e]
  show (P ++ p :: p :: R).set P.length x = _
  rw [List.set_append_right _ _ (Nat.le_refl _), Nat.sub_self]
  rfl
theorem ins_sorted {key : Nat → Int} {P Q : List Nat} {x : Nat} (hS : (P ++ Q).Pairwise (lx key)) (hQ : ∀ y ∈ Q, key x < key y) (hP : ∀ p, P.getLast? = some p → lx key p x) : (P ++ x :: Q).Pairwise (lx key) := by
  rw [List.pairwise_append] at hS ⊢
  obtain ⟨h1, h2, h3⟩ := hS
  refine ⟨h1, List.pairwise_cons.2 ⟨fun y hy => .inl (hQ y hy), h2⟩, ?_⟩
  have hPx : ∀ a ∈ P, lx key a x := by
    intro a ha
    rcases List.eq_nil_or_concat P with rfl | ⟨P', p, rfl⟩
    · cases ha
    · have hp := hP p (by simp)
      rw [List.concat_eq_append, List.mem_append] at ha
      rcases ha with ha | ha
      · rw [List.concat_eq_append, List.pairwise_append] at h1
        exact lx_trans (h1.2.2 a ha p (by simp)) hp
      · rw [List.mem_singleton] at ha; subst ha; exact hp
  intro a ha b hb
  rcases List.mem_cons.1 hb with rfl | hb
  · exact hPx a ha
  · exact h3 a ha b hb


set_option maxRecDepth 100000 in
set_option maxHeartbeats 4000000 in
theorem near1_any (l : List St) (A : Option Addr) (cap b : Nat) (i k : Nat) (w : World) (hc : (cellB b [.slice A l.length cap] 24).holds w) (hrow : Arr 4 eT w (.slice A l.length cap) l) (hi : i < l.length) (hk : k < l.length) (hp : ∀ s ∈ l, Play s.x s.y) : Calls Tryz.prog 116 (#[] ++ #[.int .i64 (i : Nat), .int .i64 (k : Nat)] ++ #[.pointer (some ⟨b, 0, none⟩)]) w (Back (.int .i64 (cmp3 (sqAt l i) (sqAt l k))) w) := by
 obtain ⟨A', cap', e0, -, ⟨hl, -⟩, hAl⟩ := hrow
 obtain ⟨rfl, -, rfl⟩ : A = A' ∧ True ∧ cap = cap' := by injection e0 with e1 _ e3; exact ⟨e1, trivial, e3⟩
 obtain ⟨bx, qx, rfl, hh⟩ := hAl (by intro e; subst e; simp at hi)
 have hltx : i < l.length := hi
 obtain ⟨⟨xt, xn, xx, xy⟩, hx⟩ : ∃ y, l[i]'hltx = y := ⟨_, rfl⟩
 have hmx : (⟨xt, xn, xx, xy⟩ : St) ∈ l := by rw [← hx]; exact List.getElem_mem _
 have hlty : k < l.length := hk
 obtain ⟨⟨yt, yn, yx, yy⟩, hy⟩ : ∃ y, l[k]'hlty = y := ⟨_, rfl⟩
 have hmy : (⟨yt, yn, yx, yy⟩ : St) ∈ l := by rw [← hy]; exact List.getElem_mem _
 refine J_enter (fun _ => False) (vs := [.int .i64 (i : Nat), .int .i64 (k : Nat), .pointer (some ⟨b, 0, none⟩)]) (k := 25) (l := [(0, .int .i64 (i : Nat)), (1, .int .i64 (k : Nat)), (2, .pointer (some ⟨b, 0, none⟩))]) Tryz.func116 rfl rfl Tryz.ntmps116 rfl rfl (Wd.start _) ?_
 refine s6 ?_
 refine xD [0, 1, 2, 3, 4, 6, 7, 8, 9, 10, 5, 11, 12, 13] [0, 4, 6, 10] ?_
 refine dL rfl (vOld rfl rfl (fun h => h) (cellB_get hc rfl)) ?_
 refine s1 ?_
 refine dP rfl (pIdxI (i) rfl rfl rfl) ?_
 refine s1 ?_
 refine dL rfl (vHoldP (i := 2) (m := 2) (cs := [.int .i64 xx, .int .i64 xy]) rfl rfl (fun h => h) hh hltx rfl (by omega) (by rw [hx]; rfl)) ?_
 refine dL rfl (vOld rfl rfl (fun h => h) (cellB_get hc rfl)) ?_
 refine s1 ?_
 refine dP rfl (pIdxI (k) rfl rfl rfl) ?_
 refine s1 ?_
 refine dL rfl (vHoldP (i := 2) (m := 2) (cs := [.int .i64 yx, .int .i64 yy]) rfl rfl (fun h => h) hh hlty rfl (by omega) (by rw [hy]; rfl)) ?_
 refine dCB rfl (fun w hw => square_any xx xy (play_bound (hp _ hmx)) w) ?_
 refine dCB rfl (fun w hw => square_any yx yy (play_bound (hp _ hmy)) w) ?_
 refine s7 ?_
 refine kJ [(6, _), (7, _)] ?_
 refine s4 ?_
 refine JL_dec (fun h23 => ?_) (fun h23 => ?_)
 ·refine s5 ?_
  refine kJ [] ?_
  refine s7 ?_
  refine JR_one rfl (rr_tmp rfl) ?_
  intro w' hw
  exact ⟨by rw [sqAt_get hltx hx, sqAt_get hlty hy]; unfold cmp3; rw [if_pos h23], hw.bel⟩
 ·refine s5 ?_
  refine kJ [(6, _), (7, _)] ?_
  refine s4 ?_
  refine JL_dec (fun h27 => ?_) (fun h27 => ?_)
  ·refine s5 ?_
   refine kJ [] ?_
   refine s7 ?_
   refine JR_one rfl (rr_tmp rfl) ?_
   intro w' hw
   exact ⟨by rw [sqAt_get hltx hx, sqAt_get hlty hy]; unfold cmp3; rw [if_neg h23, if_pos h27], hw.bel⟩
  ·refine s8 ?_
   refine kJ [] ?_
   refine s5 ?_
   refine JR_one rfl (rr_tmp rfl) ?_
   intro w' hw
   exact ⟨by rw [sqAt_get hltx hx, sqAt_get hlty hy]; unfold cmp3; rw [if_neg h23, if_neg h27], hw.bel⟩
set_option maxRecDepth 100000 in
set_option maxHeartbeats 4000000 in
theorem insertion_any (f : FuncId) (caps : Array Value) (key : Nat → Int) (d : List Nat) (g c : Nat) (w : World) [hf : Cf Tryz.prog f] (hA : (ownB 3 1 (some ⟨g, 0, none⟩) d.length c ((d).flatMap eN)).holds w) (hAf : ∀ b, (ownB 3 1 (some ⟨g, 0, none⟩) d.length c ((d).flatMap eN)).foot b → b < w.heap.size) (hinc : d.Pairwise (· < ·)) (hd20 : d.length ≤ 20) (hcl : ∀ i k : Nat, i ∈ d → k ∈ d → ∀ W, Wd ⟨w, (ownB 3 1 (some ⟨g, 0, none⟩) d.length c ((d).flatMap eN)).foot, none, []⟩ [] W → Calls Tryz.prog f (#[] ++ #[.int .i64 (i : Nat), .int .i64 (k : Nat)] ++ caps) W (Back (.int .i64 (cmp3 (key i) (key k))) W)) : Calls Tryz.prog 198 #[.slice (some ⟨g, 0, none⟩) d.length c, .int .i64 0, .int .i64 (d.length : Nat), .func (.func f) #[] caps] w (RetM (ownB 3 1 (some ⟨g, 0, none⟩) d.length c ((d).flatMap eN)) (fun d' : List Nat => d'.Perm d ∧ d'.Pairwise (lx key)) (fun _ => .tuple #[]) (fun d' => ownB 3 1 (some ⟨g, 0, none⟩) d'.length c ((d').flatMap eN)) w) := by
 refine J_start (B := ⟨w, (ownB 3 1 (some ⟨g, 0, none⟩) d.length c ((d).flatMap eN)).foot, none, []⟩) rfl rfl (vs := [.slice (some ⟨g, 0, none⟩) d.length c, .int .i64 0, .int .i64 (d.length : Nat), .func (.func f) #[] caps]) (k := 49) (l := [(0, .slice (some ⟨g, 0, none⟩) d.length c), (1, .int .i64 0), (2, .int .i64 (d.length : Nat)), (3, .func (.func f) #[] caps)]) Tryz.func198 rfl rfl Tryz.ntmps198 rfl rfl (Wd.startM hA hAf) ?_
 refine s8 ?_
 refine xL (T := Nat × List Nat) (fun q => 1 ≤ q.1 ∧ (q.1 ≤ d.length ∨ d.length = 0) ∧ q.2.Perm (d.take q.1) ∧ q.2.Pairwise (lx key)) (fun q => [(0, .slice (some ⟨g, 0, none⟩) d.length c), (1, .int .i64 0), (2, .int .i64 (d.length : Nat)), (3, .func (.func f) #[] caps), (8, .int .i64 (q.1 : Nat))]) (fun q => [ownB 3 1 (some ⟨g, 0, none⟩) d.length c ((q.2 ++ d.drop q.1).flatMap eN)]) (fun q => d.length - q.1) (1, d.take 1) ⟨Nat.le_refl _, by dsimp only; omega, List.Perm.refl _, by dsimp only; cases d with | nil => simp | cons a d => simp⟩ ?_ (hl := ⟨rfl, rfl, rfl, rfl, (congrArg some (by go_num)), trivial⟩) (hH := by (try dsimp only); rw [List.take_append_drop]; repeat constructor)
 rintro ⟨i, S⟩ ⟨hi1, hi2, hS1, hS2⟩
 dsimp only at hi1 hi2 hS1 hS2 ⊢
 refine s6 ?_
 refine JL_dec (fun h14 => ?_) (fun h14 => ?_)
 ·refine s8 ?_
  have hltx : i < d.length := by omega
  obtain ⟨x, hx⟩ : ∃ x, d[i]'hltx = x := ⟨_, rfl⟩
  obtain ⟨T, hT⟩ : ∃ T, d.drop (i + 1) = T := ⟨_, rfl⟩
  have hdr : d.drop i = x :: T := by rw [List.drop_eq_getElem_cons hltx, hx, hT]
  have hlen : S.length = i := by rw [hS1.length_eq, List.length_take]; omega
  have hxm : x ∈ d := by rw [← hx]; exact List.getElem_mem _
  have hgt : ∀ y ∈ S, y < x ∧ y ∈ d := fun y hy => by
   have hy2 := hS1.mem_iff.1 hy
   refine ⟨?_, List.mem_of_mem_take hy2⟩
   have h := hinc
   rw [← List.take_append_drop i d, List.pairwise_append] at h
   exact h.2.2 y hy2 x (by rw [hdr]; simp)
  have hdl : d.length = i + 1 + T.length := by rw [← hT, List.length_drop]; omega
  refine s6 ?_
  refine xL (T := List Nat × List Nat) (fun q => q.1 ++ q.2 = S ∧ ∀ y ∈ q.2, key x < key y) (fun q => [(0, .slice (some ⟨g, 0, none⟩) d.length c), (1, .int .i64 0), (2, .int .i64 (d.length : Nat)), (3, .func (.func f) #[] caps), (8, .int .i64 (i : Nat)), (9, .int .i64 (q.1.length : Nat))]) (fun q => [ownB 3 1 (some ⟨g, 0, none⟩) d.length c ((q.1 ++ x :: (q.2 ++ T)).flatMap eN)]) (fun q => q.1.length) (S, []) ⟨List.append_nil _, fun y hy => by cases hy⟩ ?_ (hl := ⟨rfl, rfl, rfl, rfl, rfl, (by dsimp only; rw [hlen]; rfl), trivial⟩) (hH := by (try dsimp only); rw [List.nil_append, ← hdr]; repeat constructor)
  rintro ⟨P, Q⟩ ⟨hPQ, hQ⟩
  dsimp only at hPQ hQ ⊢
  refine s2 ?_
  have fin : (∀ y, P.getLast? = some y → lx key y x) → (P ++ x :: Q).Perm (d.take (i + 1)) ∧ (P ++ x :: Q).Pairwise (lx key) := fun h => by
   refine ⟨?_, ins_sorted (by rw [hPQ]; exact hS2) hQ h⟩
   rw [List.take_succ_eq_append_getElem hltx, hx]
   refine List.perm_middle.trans ?_
   rw [hPQ]
   exact (hS1.cons x).trans (List.perm_append_singleton _ _).symm
  have hPl : P.length + Q.length = i := by rw [← hlen, ← hPQ, List.length_append]
  rcases List.eq_nil_or_concat P with rfl | ⟨P', p, rfl⟩
  ·obtain ⟨fin1, fin2⟩ := fin (fun y hy => by cases hy)
   refine xD [0, 1, 2, 3, 4, 5, 6, 7, 8, 9, 10, 11, 12, 13, 14, 15, 16] [8, 13] ?_
   refine s3 ?_
   refine dDecF ?_ (by simp)
   refine s23 ?_
   refine kJ [(0, _), (1, _), (2, _), (3, _), (8, _)] ?_
   refine s5 ?_
   exact xR (i + 1, [] ++ x :: Q) ⟨by dsimp only; omega, by dsimp only; omega, fin1, fin2⟩ (by dsimp only; omega) (hl := ⟨rfl, rfl, rfl, rfl, (congrArg some (by go_num)), trivial⟩) (hH := by (try dsimp only); rw [show ([] ++ x :: Q) ++ d.drop (i + 1) = [] ++ x :: (Q ++ T) by rw [hT]; simp]; repeat constructor)
  ·rw [List.concat_eq_append] at *
   have hl2 : (P' ++ [p]).length = P'.length + 1 := by simp
   have e1 : P' ++ [p] ++ x :: (Q ++ T) = (P' ++ p :: x :: (Q ++ T)) := by simp
   have hML : (P' ++ p :: x :: (Q ++ T)).length = d.length := by simp; rw [hl2] at hPl; omega
   have hj0 : P'.length < (P' ++ p :: x :: (Q ++ T)).length := by simp
   have hj1 : P'.length + 1 < (P' ++ p :: x :: (Q ++ T)).length := by simp
   have g0 : (P' ++ p :: x :: (Q ++ T))[P'.length]'hj0 = p := by rw [List.getElem_append_right (by omega)]; simp
   have g1 : (P' ++ p :: x :: (Q ++ T))[P'.length + 1]'hj1 = x := by rw [List.getElem_append_right (by omega)]; simp
   have hsw : ((P' ++ p :: x :: (Q ++ T)).set (P'.length + 1) p).set P'.length x = P' ++ x :: (p :: Q ++ T) := swap_list
   have hpS := hgt p (by rw [← hPQ]; simp)
   rw [e1, hl2]
   refine xD [0, 1, 2, 3, 4, 5, 6, 7, 8, 9, 10, 11, 12, 13, 14, 15] [8, 13] ?_
   refine s3 ?_
   refine dDecT ?_ (by omega)
   refine s4 ?_
   refine dP rfl (pIdxI (P'.length + 1) rfl rfl rfl (by go_num)) ?_
   refine dL rfl (vOwn EN rfl rfl (by repeat constructor) hj1 (by omega) (by rw [g1]; rfl)) ?_
   refine s3 ?_
   refine dP rfl (pIdxI (P'.length) rfl rfl rfl (by go_num)) ?_
   refine dL rfl (vOwn EN rfl rfl (by repeat constructor) hj0 (by omega) (by rw [g0]; rfl)) ?_
   refine dW rfl (ow_callB (ec_val rfl rfl rfl Cf.h) rfl rfl (fun w hw => hcl x p hxm hpS.2 w (hw.pick (Pk.nil _)))) (fun _ _ => ?_)
   refine s1 ?_
   refine dDec (fun h33 => ?_) (fun h33 => ?_)
   ·have hkey : key x < key p := by
     unfold cmp3 at h33
     split at h33
     ·assumption
     ·split at h33 <;> omega
    refine dO [16] ?_
    refine s8 ?_
    refine kJ [(0, _), (1, _), (2, _), (3, _), (8, _), (9, _)] ?_
    refine xD [0, 1, 2, 3, 4, 5, 6, 7, 8, 9, 10, 11, 12, 13, 14, 15, 16, 17] [9, 13] ?_
    refine s8 ?_
    refine dP rfl (pIdxI (P'.length) rfl rfl rfl (by go_num)) ?_
    refine dL rfl (vOwn EN rfl rfl (by repeat constructor) hj0 (by omega) (by rw [g0]; rfl)) ?_
    refine s2 ?_
    refine dP rfl (pIdxI (P'.length + 1) rfl rfl rfl (by go_num)) ?_
    refine dL rfl (vOwn EN rfl rfl (by repeat constructor) hj1 (by omega) (by rw [g1]; rfl)) ?_
    refine dP rfl (pIdxI (P'.length + 1) rfl rfl rfl (by go_num)) ?_
    refine dW0 rfl (oStE EN [_] p (show P'.length + 1 < (P' ++ p :: x :: (Q ++ T)).length from hj1) (hi := Nat.le_refl _) (hr := rfl)) ?_
    refine dP rfl (pIdxI (P'.length) rfl rfl rfl (by go_num)) ?_
    refine dW0 rfl (oStE EN [_] x (show P'.length < ((P' ++ p :: x :: (Q ++ T)).set (P'.length + 1) p).length by rw [List.length_set]; exact hj0) (hi := Nat.le_refl _) (hr := rfl)) ?_
    refine s3 ?_
    refine kJ [(0, _), (1, _), (2, _), (3, _), (8, _), (9, _)] ?_
    refine s5 ?_
    refine xR (P', p :: Q) ⟨by dsimp only; rw [← hPQ, List.append_assoc]; rfl, fun y hy => (List.mem_cons.1 hy).elim (fun h => h ▸ hkey) (hQ y)⟩ (by dsimp only; omega) (hl := ⟨rfl, rfl, rfl, rfl, rfl, (congrArg (fun z => some (Value.int .i64 z)) (by dsimp only; omega)), trivial⟩) (hH := by dsimp only; rw [hsw]; repeat constructor)
   ·obtain ⟨fin1, fin2⟩ := fin (fun y hy => by
     have e : p = y := by simpa using hy
     subst e
     unfold lx
     unfold cmp3 at h33
     split at h33
     ·omega
     ·have := hpS.1; omega)
    refine dO [16] ?_
    refine s10 ?_
    refine kJ [(0, _), (1, _), (2, _), (3, _), (8, _)] ?_
    refine s5 ?_
    exact xR (i + 1, (P' ++ [p]) ++ x :: Q) ⟨by dsimp only; omega, by dsimp only; omega, fin1, fin2⟩ (by dsimp only; omega) (hl := ⟨rfl, rfl, rfl, rfl, (congrArg some (by go_num)), trivial⟩) (hH := by (try dsimp only); rw [show ((P' ++ [p]) ++ x :: Q) ++ d.drop (i + 1) = (P' ++ p :: x :: (Q ++ T)) by rw [hT]; simp]; repeat constructor)
 ·refine s7 ?_
  refine JR_end rfl ?_
  intro w' hw
  have hil : d.length ≤ i := by omega
  have e1 : d.take i = d := List.take_of_length_le hil
  have e2 : d.drop i = [] := List.drop_of_length_le hil
  rw [e1] at hS1
  rw [e2, List.append_nil, ← hS1.length_eq] at hw
  exact ⟨S, ⟨hS1, hS2⟩, rfl, hw.pick (by repeat constructor)⟩
end Go.Proofs.YtmcpnoailbmkkaaGreatDoor
/- Layer 2: the nearest stones, sorted. -/
namespace Go.Proofs.YtmcpnoailbmkkaaGreatDoor
open Go Go.RowKit Go.Proofs
attribute [local irreducible] J JQ JL JA JD

instance : Cf Tryz.prog 171 := ⟨fun _ _ => by kernel_rfl⟩
/-- What a call may have turned, a call of its callee's may have. -/
theorem Wd.nilM {B : Bs} {H : List It} {A : It} {w0 w : World} (hw : Wd B H w0) (hA : A ∈ H) (hr : A.ro = false) (hW : Wd ⟨w0, A.foot, none, []⟩ [] w) : Wd B [] w := by
 refine ⟨hW.os.trans hw.os, hW.tape.trans hw.tape, hW.output.trans hw.output, Nat.le_trans hw.size hW.size, fun b h1 h2 => (hW.block b (Nat.lt_of_lt_of_le h1 hw.size) (fun hf => ?_)).trans (hw.block b h1 h2), fun _ h => (by cases h), List.Pairwise.nil⟩
 rcases ((hw.ok A hA).2 b hf).1 with h | h | h
 ·rw [hr] at h; cases h
 ·exact h2 h
 ·omega
set_option maxRecDepth 100000 in
set_option maxHeartbeats 4000000 in
theorem stable_any (f : FuncId) (caps : Array Value) (key : Nat → Int) (d : List Nat) (g c : Nat) (w : World) [hf : Cf Tryz.prog f] (hA : (ownB 3 1 (some ⟨g, 0, none⟩) d.length c ((d).flatMap eN)).holds w) (hAf : ∀ b, (ownB 3 1 (some ⟨g, 0, none⟩) d.length c ((d).flatMap eN)).foot b → b < w.heap.size) (hinc : d.Pairwise (· < ·)) (hd20 : d.length ≤ 19) (hcl : ∀ i k : Nat, i ∈ d → k ∈ d → ∀ W, Wd ⟨w, (ownB 3 1 (some ⟨g, 0, none⟩) d.length c ((d).flatMap eN)).foot, none, []⟩ [] W → Calls Tryz.prog f (#[] ++ #[.int .i64 (i : Nat), .int .i64 (k : Nat)] ++ caps) W (Back (.int .i64 (cmp3 (key i) (key k))) W)) : Calls Tryz.prog 171 #[.slice (some ⟨g, 0, none⟩) d.length c, .int .i64 (d.length : Nat), .func (.func f) #[] caps] w (RetM (ownB 3 1 (some ⟨g, 0, none⟩) d.length c ((d).flatMap eN)) (fun d' : List Nat => d'.Perm d ∧ d'.Pairwise (lx key)) (fun _ => .tuple #[]) (fun d' => ownB 3 1 (some ⟨g, 0, none⟩) d'.length c ((d').flatMap eN)) w) := by
 refine J_start (B := ⟨w, (ownB 3 1 (some ⟨g, 0, none⟩) d.length c ((d).flatMap eN)).foot, none, []⟩) rfl rfl (vs := [.slice (some ⟨g, 0, none⟩) d.length c, .int .i64 (d.length : Nat), .func (.func f) #[] caps]) (k := 60) (l := [(0, .slice (some ⟨g, 0, none⟩) d.length c), (1, .int .i64 (d.length : Nat)), (2, .func (.func f) #[] caps)]) Tryz.func171 rfl rfl Tryz.ntmps171 rfl rfl (Wd.startM hA hAf) ?_
 refine s14 ?_
 refine xL (T := Unit) (fun _q => True) (fun _q => [(0, .slice (some ⟨g, 0, none⟩) d.length c), (1, .int .i64 (d.length : Nat)), (2, .func (.func f) #[] caps), (6, .int .i64 20), (7, .int .i64 0), (8, .int .i64 20)]) (fun _q => [ownB 3 1 (some ⟨g, 0, none⟩) d.length c ((d).flatMap eN)]) (fun _q => 0) () trivial ?_
 rintro _ -
 refine s6 ?_
 refine aDecF ?_ (by omega)
 refine s9 ?_
 refine kJ [(0, _), (1, _), (2, _), (6, _), (7, _)] ?_
 refine s5 ?_
 refine aW (oM (fun w hw => insertion_any f caps key d g c w (hw.ok (ownB 3 1 (some ⟨g, 0, none⟩) d.length c ((d).flatMap eN)) (by repeat constructor)).1 (fun b hb => ((hw.ok (ownB 3 1 (some ⟨g, 0, none⟩) d.length c ((d).flatMap eN)) (by repeat constructor)).2 b hb).2) hinc (by omega) (fun i k hi hk W hW => hcl i k hi hk W (hw.nilM (A := ownB 3 1 (some ⟨g, 0, none⟩) d.length c ((d).flatMap eN)) (by repeat constructor) rfl hW)))) (fun dd hdd => ?_)
 refine s3 ?_
 refine xL (T := Unit) (fun _q => True) (fun _q => [(0, .slice (some ⟨g, 0, none⟩) d.length c), (1, .int .i64 (d.length : Nat)), (2, .func (.func f) #[] caps), (6, .int .i64 20)]) (fun _q => [ownB 3 1 (some ⟨g, 0, none⟩) dd.length c (dd.flatMap eN)]) (fun _q => 0) () trivial ?_
 rintro _ -
 refine s6 ?_
 refine aDecF ?_ (by omega)
 refine s7 ?_
 refine JR_end rfl ?_
 intro w' hw
 exact ⟨dd, hdd, rfl, hw.pick (by repeat constructor)⟩
set_option maxRecDepth 100000 in
set_option maxHeartbeats 4000000 in
theorem sortStable_any (f : FuncId) (caps : Array Value) (key : Nat → Int) (d : List Nat) (g c : Nat) (w : World) [hf : Cf Tryz.prog f] (hA : (ownB 3 1 (some ⟨g, 0, none⟩) d.length c ((d).flatMap eN)).holds w) (hAf : ∀ b, (ownB 3 1 (some ⟨g, 0, none⟩) d.length c ((d).flatMap eN)).foot b → b < w.heap.size) (hinc : d.Pairwise (· < ·)) (hd20 : d.length ≤ 19) (hcl : ∀ i k : Nat, i ∈ d → k ∈ d → ∀ W, Wd ⟨w, (ownB 3 1 (some ⟨g, 0, none⟩) d.length c ((d).flatMap eN)).foot, none, []⟩ [] W → Calls Tryz.prog f (#[] ++ #[.int .i64 (i : Nat), .int .i64 (k : Nat)] ++ caps) W (Back (.int .i64 (cmp3 (key i) (key k))) W)) : Calls Tryz.prog 115 #[.slice (some ⟨g, 0, none⟩) d.length c, .func (.func f) #[] caps] w (RetM (ownB 3 1 (some ⟨g, 0, none⟩) d.length c ((d).flatMap eN)) (fun d' : List Nat => d'.Perm d ∧ d'.Pairwise (lx key)) (fun _ => .tuple #[]) (fun d' => ownB 3 1 (some ⟨g, 0, none⟩) d'.length c ((d').flatMap eN)) w) := by
 refine J_start (B := ⟨w, (ownB 3 1 (some ⟨g, 0, none⟩) d.length c ((d).flatMap eN)).foot, none, []⟩) rfl rfl (vs := [.slice (some ⟨g, 0, none⟩) d.length c, .func (.func f) #[] caps]) (k := 7) (l := [(0, .slice (some ⟨g, 0, none⟩) d.length c), (1, .func (.func f) #[] caps)]) Tryz.func115 rfl rfl Tryz.ntmps115 rfl rfl (Wd.startM hA hAf) ?_
 refine s5 ?_
 refine aW (oM (fun w hw => stable_any f caps key d g c w (hw.ok (ownB 3 1 (some ⟨g, 0, none⟩) d.length c ((d).flatMap eN)) (by repeat constructor)).1 (fun b hb => ((hw.ok (ownB 3 1 (some ⟨g, 0, none⟩) d.length c ((d).flatMap eN)) (by repeat constructor)).2 b hb).2) hinc hd20 (fun i k hi hk W hW => hcl i k hi hk W (hw.nilM (A := ownB 3 1 (some ⟨g, 0, none⟩) d.length c ((d).flatMap eN)) (by repeat constructor) rfl hW)))) (fun dd hdd => ?_)
 refine s1 ?_
 refine JR_end rfl ?_
 intro w' hw
 exact ⟨dd, hdd, rfl, hw.pick (by repeat constructor)⟩
set_option maxRecDepth 100000 in
set_option maxHeartbeats 4000000 in
theorem insertion_nil (fv : Value) (w : World) : Calls Tryz.prog 198 #[.slice none 0 0, .int .i64 0, .int .i64 0, fv] w (Back (.tuple #[]) w) := by
 refine J_enter (fun _ => False) (vs := [.slice none 0 0, .int .i64 0, .int .i64 0, fv]) (k := 49) (l := [(0, .slice none 0 0), (1, .int .i64 0), (2, .int .i64 0), (3, fv)]) Tryz.func198 rfl rfl Tryz.ntmps198 rfl rfl (Wd.start _) ?_
 refine s8 ?_
 refine xL (T := Unit) (fun _q => True) (fun _q => [(0, .slice none 0 0), (1, .int .i64 0), (2, .int .i64 0), (3, fv), (8, .int .i64 1)]) (fun _q => []) (fun _q => 0) () trivial ?_
 rintro _ -
 refine s6 ?_
 refine aDecF ?_ (by decide)
 refine s7 ?_
 refine JR_end rfl ?_
 intro w' hw
 exact ⟨rfl, hw.bel⟩
set_option maxRecDepth 100000 in
set_option maxHeartbeats 4000000 in
theorem stable_nil (fv : Value) (w : World) : Calls Tryz.prog 171 #[.slice none 0 0, .int .i64 0, fv] w (Back (.tuple #[]) w) := by
 refine J_enter (fun _ => False) (vs := [.slice none 0 0, .int .i64 0, fv]) (k := 60) (l := [(0, .slice none 0 0), (1, .int .i64 0), (2, fv)]) Tryz.func171 rfl rfl Tryz.ntmps171 rfl rfl (Wd.start _) ?_
 refine s14 ?_
 refine xL (T := Unit) (fun _q => True) (fun _q => [(0, .slice none 0 0), (1, .int .i64 0), (2, fv), (6, .int .i64 20), (7, .int .i64 0), (8, .int .i64 20)]) (fun _q => []) (fun _q => 0) () trivial ?_
 rintro _ -
 refine s6 ?_
 refine aDecF ?_ (by decide)
 refine s9 ?_
 refine kJ [(0, _), (1, _), (2, _), (6, _), (7, _)] ?_
 refine s5 ?_
 refine aCB (fun w hw => insertion_nil fv w) ?_
 refine s3 ?_
 refine xL (T := Unit) (fun _q => True) (fun _q => [(0, .slice none 0 0), (1, .int .i64 0), (2, fv), (6, .int .i64 20)]) (fun _q => []) (fun _q => 0) () trivial ?_
 rintro _ -
 refine s6 ?_
 refine aDecF ?_ (by decide)
 refine s7 ?_
 refine JR_end rfl ?_
 intro w' hw
 exact ⟨rfl, hw.bel⟩
set_option maxRecDepth 100000 in
set_option maxHeartbeats 4000000 in
theorem sortStable_nil (fv : Value) (w : World) : Calls Tryz.prog 115 #[.slice none 0 0, fv] w (Back (.tuple #[]) w) := by
 refine J_enter (fun _ => False) (vs := [.slice none 0 0, fv]) (k := 7) (l := [(0, .slice none 0 0), (1, fv)]) Tryz.func115 rfl rfl Tryz.ntmps115 rfl rfl (Wd.start _) ?_
 refine s5 ?_
 refine aCB (fun w hw => stable_nil fv w) ?_
 refine s1 ?_
 refine JR_end rfl ?_
 intro w' hw
 exact ⟨rfl, hw.bel⟩
end Go.Proofs.YtmcpnoailbmkkaaGreatDoor
/- Layer 2: nearest. -/
namespace Go.Proofs.YtmcpnoailbmkkaaGreatDoor
open Go Go.RowKit Go.Proofs
attribute [local irreducible] J JQ JL JA JD

/-- The nearest stones: a list, as a row. -/
structure NrT where
 L : List Nat
 A : Option Addr
 c : Nat
/-- Those of a list's stones that are in the house, the nearest first. -/
def NrP (l : List St) (L : List Nat) : Prop := L.Perm (hsA l) ∧ L.Pairwise (lx (sqAt l))
theorem hsX_s {l : List St} {n k : Nat} (h : (hsA l)[n]? = some k) : hsX l (n + 1) = hsX l n ++ [k] := by
 obtain ⟨h1, h2⟩ := List.getElem?_eq_some_iff.1 h
 unfold hsX
 rw [List.take_succ_eq_append_getElem h1, h2]
theorem hsX_all (l : List St) : hsX l (hsA l).length = hsA l := List.take_length
theorem hsA_up (l : List St) : (hsA l).Pairwise (· < ·) := by
 unfold hsA hsN
 exact List.pairwise_lt_range.sublist List.filter_sublist
theorem hsA_mem {l : List St} {i : Nat} (h : i ∈ hsA l) : i < l.length := (hs_mem h).1
theorem hsX_len (l : List St) (n : Nat) : (hsX l n).length ≤ l.length := by
 unfold hsX
 exact Nat.le_trans (List.length_take_le' n (hsA l)) (hsN_len l l.length)
theorem own_cs {B : Bs} {H : List It} {ty k m c : Nat} {A : Option Addr} {xs : List Value} (hw : ∃ w, Wd B H w) (hm : ownB ty k A m c xs ∈ H) : (A = none ∧ m = 0 ∧ c = 0) ∨ ∃ g, A = some ⟨g, 0, none⟩ := by
 obtain ⟨w, hw⟩ := hw
 have h : w.ownsRow 0 ty k (.slice A m c) m xs := (hw.ok _ hm).1
 rcases h.2 with ⟨h1, h2⟩ | ⟨g, cap, cur, h1, -⟩
 ·injection h1 with e1 e2 e3
  exact .inl ⟨e1, e2, e3⟩
 ·injection h1 with e1
  exact .inr ⟨g, e1⟩
theorem Wd.keepM {B : Bs} {H : List It} {A C : It} {w0 w : World} (hw : Wd B H w0) (hW : Wd ⟨w0, A.foot, none, []⟩ [] w) (hk : Pk [C, A] H) (hr : C.ro = false) : C.holds w := by
 have h2 := hw.pick hk
 have hs := sepR.out ((List.pairwise_cons.1 h2.sep).1 A (by simp)) hr
 have o := h2.ok C (by simp)
 exact C.st w0 w (fun b hb => hW.block b (o.2 b hb).2 (fun h => hs b hb h)) o.1
theorem Wd.belM2 {H : List It} {A : It} {w0 w1 w : World} {r : Option Nat} {d : List Deferred} (hw : Wd ⟨w0, fun _ => False, r, d⟩ H w1) (hA : A ∈ H) (hAr : A.ro = false) (hW : Wd ⟨w1, A.foot, none, []⟩ [] w) : Below w0.heap.size w0 w := by
 refine ⟨hW.os.trans hw.os, hW.tape.trans hw.tape, hW.output.trans hw.output, Nat.le_trans hw.size hW.size, fun b hlt => (hW.block b (Nat.lt_of_lt_of_le hlt hw.size) (fun hf => ?_)).trans (hw.block b hlt (fun h => h))⟩
 have hlt' : b < w0.heap.size := hlt
 rcases ((hw.ok A hA).2 b hf).1 with h | h | h
 ·rw [hAr] at h; cases h
 ·exact h
 ·have : w0.heap.size ≤ b := h
  omega
set_option maxRecDepth 100000 in
set_option maxHeartbeats 4000000 in
theorem nearest_any (l : List St) (v : Value) (w : World) (hrow : Arr 4 eT w v l) (hok : ∀ s ∈ l, OkS s.x s.y) (hpl : ∀ s ∈ l, Play s.x s.y) (hl9 : l.length ≤ 19) : Calls Tryz.prog 65 #[v] w (Ret w (fun t : NrT => NrP l t.L) (fun t => .slice t.A t.L.length t.c) (fun t => [ownB 3 1 t.A t.L.length t.c (t.L.flatMap eN)])) := by
 have hrow0 := hrow
 obtain ⟨A, cap, rfl, -, ⟨hl, -⟩, hA⟩ := hrow
 refine J_startM (B := bs w) rfl rfl (vs := [.slice A l.length cap]) (k := 16) (l := [(0, .slice A l.length cap)]) Tryz.func65 rfl rfl Tryz.ntmps65 rfl rfl ((Wd.start (bs w))) ?_
 refine s2 ?_
 refine aW (oX [_]) (fun b1 hb1 => ?_)
 refine s5 ?_
 refine aW oA (fun b3 hb3 => ?_)
 refine s4 ?_
 refine J_own0 3 1 ?_
 refine J_defs ?_
 refine s2 ?_
 refine aW (oR (fun w hw => housed_any A l.length cap w)) (fun bh _ => ?_)
 refine s3 ?_
 refine J_range2 (T := HsT) (Y := Nat × St) (Ds := []) (p := 7) (q := 8) (fun t => t.n ≤ (hsA l).length) (fun t X => [cellB bh [.slice A l.length cap] 24, cellB b1 [.slice A l.length cap] 24, cellB b3 [.slice t.A (hsX l t.n).length t.c] 34, ownB 3 1 t.A (hsX l t.n).length t.c ((hsX l t.n).flatMap eN), X]) (fun t y => (hsA l)[t.n]? = some y.1 ∧ l[y.1]? = some y.2) (fun y => .int .i64 (y.1 : Nat)) (fun y => Stv y.2) (fun t y X => [cellB bh [.slice A l.length cap] 24, cellB b1 [.slice A l.length cap] 24, cellB b3 [.slice t.A (hsX l t.n).length t.c] 34, ownB 3 1 t.A (hsX l t.n).length t.c ((hsX l t.n).flatMap eN), X]) (fun t t' => t'.n = t.n + 1) (fun t => t.n = (hsA l).length) (fun t => t.n = 0) (fun y => [(1, .pointer (some ⟨b1, 0, none⟩)), (3, .pointer (some ⟨b3, 0, none⟩)), (4, .int .i64 (y.1 : Nat))]) (housed1_any l A cap bh b3 w (cellB b1 [.slice A l.length cap] 24) hrow0 hok) (⟨0, none, 0⟩) ((Nat.zero_le _)) (rfl) ?_ ?_ ?_
 ·rintro lp t ⟨yk, ys⟩ X ht ⟨hy1, hy2⟩
  dsimp only at hy1 hy2 ⊢
  have hxl := hsX_len l t.n
  refine kJ [(1, _), (3, _), (7, _)] ?_
  refine s3 ?_
  exact xE () trivial
 ·rintro lp t ⟨yk, ys⟩ X ht ⟨hy1, hy2⟩
  dsimp only at hy1 hy2 ⊢
  have hxl := hsX_len l t.n
  refine s4 ?_
  refine aW (ow_sliceC (vs := [_]) (ty := 3) rfl rfl (by rfl) rfl rfl (fun _ => by kernel_rfl)) (fun b11 hb11 => ?_)
  refine aS (oApp (sl := 34) EN (yk)) (fun A12 c12 => ?_)
  refine s3 ?_
  have hs := hsX_s hy1
  exact xE ⟨t.n + 1, A12, c12⟩ ⟨rfl, by have := (List.getElem?_eq_some_iff.1 hy1).1; dsimp only; omega⟩ (hH := by (try dsimp only); rw [hs]; repeat constructor)
 ·rintro D t ht hfin
  refine s3 ?_
  have ht2 : hsX l t.n = hsA l := by rw [hfin]; exact hsX_all l
  rw [ht2]
  refine J_fact (fun hw => ?_)
  rcases own_cs hw (ty := 3) (k := 1) (A := t.A) (m := (hsA l).length) (c := t.c) (xs := (hsA l).flatMap eN) (by repeat constructor) with ⟨hz1, hz2, hz3⟩ | ⟨g, hz1⟩
  ·clear hw
   have hz4 : hsA l = [] := List.length_eq_zero_iff.1 hz2
   rw [hz1, hz3, hz4]
   refine kJ [(1, _), (3, _)] ?_
   refine s3 ?_
   refine aCB (fun w hw => sortStable_nil _ w) ?_
   refine s3 ?_
   refine kJ [(3, _)] ?_
   refine s6 ?_
   refine JR_marks (fun X => [ownB 3 1 none 0 0 [], X]) rfl (fun _ => rr_tmp rfl) ?_
   intro w' hw
   exact ⟨⟨[], none, 0⟩, ⟨by rw [hz4], List.Pairwise.nil⟩, rfl, (hw.un (r' := none) (d' := [])).pick (by repeat constructor)⟩
  ·clear hw
   rw [hz1]
   refine kJ [(1, _), (3, _)] ?_
   refine s3 ?_
   refine aW (oM (fun w hw => sortStable_any 116 #[.pointer (some ⟨b1, 0, none⟩)] (sqAt l) (hsA l) g t.c w (hw.ok (ownB 3 1 (some ⟨g, 0, none⟩) (hsA l).length t.c ((hsA l).flatMap eN)) (by repeat constructor)).1 (fun b hb => ((hw.ok (ownB 3 1 (some ⟨g, 0, none⟩) (hsA l).length t.c ((hsA l).flatMap eN)) (by repeat constructor)).2 b hb).2) (hsA_up l) (by have := hsN_len l l.length; unfold hsA; omega) (fun i k hi hk W hW => near1_any l A cap b1 i k W (hw.keepM (A := ownB 3 1 (some ⟨g, 0, none⟩) (hsA l).length t.c ((hsA l).flatMap eN)) (C := cellB b1 [.slice A l.length cap] 24) hW (by repeat constructor) rfl) (hrow0.up ET (hw.belM2 (A := ownB 3 1 (some ⟨g, 0, none⟩) (hsA l).length t.c ((hsA l).flatMap eN)) (by repeat constructor) rfl hW)) (hsA_mem hi) (hsA_mem hk) hpl))) (fun dd hdd => ?_)
   refine s3 ?_
   refine kJ [(3, _)] ?_
   refine s6 ?_
   refine JR_marks (fun X => [ownB 3 1 (some ⟨g, 0, none⟩) dd.length t.c (dd.flatMap eN), X]) rfl (fun _ => rr_tmp rfl) ?_
   intro w' hw
   have hdl := hdd.1.length_eq
   exact ⟨⟨dd, some ⟨g, 0, none⟩, t.c⟩, hdd, by dsimp only; rw [hdl], (hw.un (r' := none) (d' := [])).pick (by repeat constructor)⟩
end Go.Proofs.YtmcpnoailbmkkaaGreatDoor
/- Layer 2, in plain Lean: the count of the program and that of the document are one. (Carried over from wip/sheet's V, Rc, Cn.) -/
namespace Go.Proofs.YtmcpnoailbmkkaaGreatDoor
open Go Go.RowKit Go.Proofs
def teamAt (l : List St) (i : Nat) : Int := (l.getD i ⟨0, 0, 0, 0⟩).t
/-! V -/
/-- How many of the first lim are nearer than far, from the first one on. -/
def ptsN (l : List St) (d : List Nat) (lim : Nat) (far : Int) : Nat := ((d.take lim).takeWhile fun i => decide (sqAt l i < far)).length

/-- Who counts, by the order d. -/
def cntT (l : List St) (d : List Nat) : Int × Int :=
  match d with
  | [] => (-1, 0)
  | a :: _ =>
    if fidx (fun i => teamAt l i != teamAt l a) d < 0 then (teamAt l a, (d.length : Nat)) else
      if ptsN l d (fidx (fun i => teamAt l i != teamAt l a) d).toNat (sqAt l (d.getD (fidx (fun i => teamAt l i != teamAt l a) d).toNat 0)) = 0 then (-1, 0)
      else (teamAt l a, (ptsN l d (fidx (fun i => teamAt l i != teamAt l a) d).toNat (sqAt l (d.getD (fidx (fun i => teamAt l i != teamAt l a) d).toNat 0)) : Nat))

theorem ptsN_at {l : List St} {d : List Nat} {lim k : Nat} {far : Int} (hl : lim ≤ d.length) (hk : k ≤ lim) (h1 : ∀ j (hj : j < d.length), j < k → sqAt l (d[j]'hj) < far)
    (h2 : k = lim ∨ ∃ h : k < d.length, ¬ sqAt l (d[k]'h) < far) : ptsN l d lim far = k := by
  unfold ptsN
  obtain ⟨p, hp⟩ : ∃ p : Nat → Bool, (fun i => decide (sqAt l i < far)) = p := ⟨_, rfl⟩
  have hp1 : ∀ j (hj : j < d.length), j < k → p (d[j]'hj) = true := fun j hj h => by rw [← hp]; exact decide_eq_true (h1 j hj h)
  have hp2 : k = lim ∨ ∃ h : k < d.length, p (d[k]'h) = false := h2.imp_right fun ⟨h, h3⟩ => ⟨h, by rw [← hp]; exact decide_eq_false h3⟩
  rw [hp]
  clear hp h1 h2
  induction d generalizing lim k with
  | nil => simp at hl; subst hl; simp; omega
  | cons a d ih =>
    cases lim with
    | zero => simp; omega
    | succ lim =>
      rw [List.take_succ_cons]
      cases k with
      | zero =>
        rcases hp2 with h | ⟨h, h3⟩
        · omega
        · simp only [List.getElem_cons_zero] at h3
          rw [List.takeWhile_cons_of_neg (by simp [h3])]; rfl
      | succ k =>
        have h0 := hp1 0 (by simp) (by omega)
        simp only [List.getElem_cons_zero] at h0
        rw [List.takeWhile_cons_of_pos h0, List.length_cons]
        congr 1
        refine ih (lim := lim) (k := k) (by simpa using hl) (by omega) (fun j hj h => ?_) ?_
        · have := hp1 (j + 1) (by simp; omega) (by omega)
          simpa using this
        · rcases hp2 with h | ⟨h, h3⟩
          · exact .inl (by omega)
          · exact .inr ⟨by simpa using h, by simpa using h3⟩

/-! Rc -/
/-- The square of the distance of a team's nearest stone in the house, among the first k. -/
def bT (l : List St) (t : Int) : Nat → Option Int
  | 0 => none
  | k + 1 => if (teamAt l k = t ∧ k ∈ hsA l) ∧ (bT l t k = none ∨ sqAt l k < (bT l t k).getD 0) then some (sqAt l k) else bT l t k

/-- How many of the first k stones are a team's, in the house, and nearer than a limit. -/
def cK (l : List St) (t : Int) (lim : Option Int) : Nat → Nat
  | 0 => 0
  | k + 1 => cK l t lim k + if (teamAt l k = t ∧ k ∈ hsA l) ∧ (lim = none ∨ sqAt l k < lim.getD 0) then 1 else 0

theorem cK_le (l : List St) (t : Int) (lim : Option Int) : ∀ k, cK l t lim k ≤ k
  | 0 => Nat.le_refl _
  | k + 1 => by have := cK_le l t lim k; unfold cK; split <;> omega

/-- Who counts, as the document says it. -/
def refP (l : List St) (x0 x1 : Option Int) : Int × Int :=
  match x0, x1 with
  | none, none => (-1, 0)
  | some _, none => (0, (cK l 0 none l.length : Nat))
  | none, some _ => (1, (cK l 1 none l.length : Nat))
  | some a, some b => if a = b then (-1, 0) else if b < a then (1, (cK l 1 (some a) l.length : Nat)) else (0, (cK l 0 (some b) l.length : Nat))

def refT (l : List St) : Int × Int := refP l (bT l 0 l.length) (bT l 1 l.length)

/-! Cn -/
theorem bT_spec (l : List St) (t : Int) : ∀ k, (bT l t k = none ∧ ∀ i, i < k → i ∈ hsA l → teamAt l i ≠ t) ∨
    (∃ m, bT l t k = some m ∧ (∃ i, i < k ∧ i ∈ hsA l ∧ teamAt l i = t ∧ sqAt l i = m) ∧ ∀ i, i < k → i ∈ hsA l → teamAt l i = t → m ≤ sqAt l i)
  | 0 => .inl ⟨rfl, fun _ h => by omega⟩
  | k + 1 => by
    have ih := bT_spec l t k
    unfold bT
    by_cases hc : (teamAt l k = t ∧ k ∈ hsA l) ∧ (bT l t k = none ∨ sqAt l k < (bT l t k).getD 0)
    · rw [if_pos hc]
      refine .inr ⟨_, rfl, ⟨k, by omega, hc.1.2, hc.1.1, rfl⟩, fun i hi h1 h2 => ?_⟩
      by_cases hik : i = k
      · subst hik; exact Int.le_refl _
      · rcases ih with ⟨h3, h4⟩ | ⟨m, h3, -, h4⟩
        · exact absurd h2 (h4 i (by omega) h1)
        · have := h4 i (by omega) h1 h2
          rw [h3] at hc
          rcases hc.2 with h5 | h5
          · cases h5
          · simp at h5; omega
    · rw [if_neg hc]
      rcases ih with ⟨h3, h4⟩ | ⟨m, h3, ⟨i0, h5, h6, h7, h8⟩, h4⟩
      · refine .inl ⟨h3, fun i hi h1 h2 => ?_⟩
        by_cases hik : i = k
        · subst hik; exact hc ⟨⟨h2, h1⟩, .inl h3⟩
        · exact h4 i (by omega) h1 h2
      · refine .inr ⟨m, h3, ⟨i0, by omega, h6, h7, h8⟩, fun i hi h1 h2 => ?_⟩
        by_cases hik : i = k
        · subst hik
          rcases Int.lt_or_le (sqAt l i) m with h | h
          · exact absurd ⟨⟨h2, h1⟩, .inr (by rw [h3]; exact h)⟩ hc
          · exact h
        · exact h4 i (by omega) h1 h2

theorem cK_filter (l : List St) (t : Int) (lim : Option Int) : ∀ k, cK l t lim k = ((List.range k).filter fun i => decide (i ∈ hsA l) && decide (teamAt l i = t ∧ (lim = none ∨ sqAt l i < lim.getD 0))).length
  | 0 => rfl
  | k + 1 => by
    have ih := cK_filter l t lim k
    unfold cK
    rw [ih, List.range_succ, List.filter_append, List.length_append]
    congr 1
    by_cases hc : (teamAt l k = t ∧ k ∈ hsA l) ∧ (lim = none ∨ sqAt l k < lim.getD 0)
    · rw [if_pos hc]
      simp [hc.1.1, hc.1.2, hc.2]
    · rw [if_neg hc]
      symm
      rw [List.length_eq_zero_iff, List.filter_eq_nil_iff]
      intro i hi
      rw [List.mem_singleton] at hi
      subst hi
      simp only [Bool.and_eq_true, decide_eq_true_eq]
      exact fun h => hc ⟨⟨h.2.1, h.1⟩, h.2.2⟩


theorem near_nodup {l : List St} {d : List Nat} (hd : NrP l d) : d.Nodup :=
  hd.2.imp fun {a b} h e => by subst e; unfold lx at h; omega

theorem cK_near {l : List St} {d : List Nat} (hd : NrP l d) (t : Int) (lim : Option Int) : cK l t lim l.length = (d.filter fun i => decide (teamAt l i = t ∧ (lim = none ∨ sqAt l i < lim.getD 0))).length := by
  rw [cK_filter]
  apply List.Perm.length_eq
  refine (List.perm_ext_iff_of_nodup ((List.nodup_range).filter _) ((near_nodup hd).filter _)).2 fun i => ?_
  simp only [List.mem_filter, List.mem_range, Bool.and_eq_true, decide_eq_true_eq]
  constructor
  · rintro ⟨-, h1, h2⟩
    exact ⟨hd.1.mem_iff.2 h1, h2⟩
  · rintro ⟨h1, h2⟩
    have := hd.1.mem_iff.1 h1
    exact ⟨hsA_mem this, this, h2⟩

theorem fidx_two {α : Type} (p : α → Bool) (l : List α) : (fidx p l = -1 ∧ ∀ j (hj : j < l.length), p (l[j]'hj) = false) ∨
    ∃ k, ∃ hk : k < l.length, fidx p l = k ∧ p (l[k]'hk) = true ∧ ∀ j (hj : j < k), p (l[j]'(by omega)) = false := by
  by_cases h : l.findIdx p < l.length
  · refine .inr ⟨l.findIdx p, h, by unfold fidx; rw [if_pos h], List.findIdx_getElem, fun j hj => ?_⟩
    have := List.not_of_lt_findIdx hj
    simpa using this
  · refine .inl ⟨by unfold fidx; rw [if_neg h], fun j hj => ?_⟩
    have := List.not_of_lt_findIdx (p := p) (xs := l) (i := j) (by omega)
    simpa using this

theorem near_mono {l : List St} {d : List Nat} (hd : NrP l d) {i j : Nat} (hj : j < d.length) (hij : i ≤ j) : sqAt l (d[i]'(by omega)) ≤ sqAt l (d[j]'hj) := by
  by_cases e : i = j
  · subst e; exact Int.le_refl _
  · have := List.pairwise_iff_getElem.1 hd.2 i j (by omega) hj (by omega)
    unfold lx at this; omega

/-- A team's nearest stone, by the order d. -/
theorem bT_none {l : List St} {d : List Nat} (hd : NrP l d) {t : Int} (h : ∀ i ∈ d, teamAt l i ≠ t) : bT l t l.length = none := by
  rcases bT_spec l t l.length with ⟨h1, -⟩ | ⟨m, -, ⟨i, -, h2, h3, -⟩, -⟩
  · exact h1
  · exact absurd h3 (h i (hd.1.mem_iff.2 h2))

theorem bT_some {l : List St} {d : List Nat} (hd : NrP l d) {t : Int} {k : Nat} (hk : k < d.length) (h1 : teamAt l (d[k]'hk) = t) (h2 : ∀ j (hj : j < k), teamAt l (d[j]'(by omega)) ≠ t) :
    bT l t l.length = some (sqAt l (d[k]'hk)) := by
  have hm : d[k]'hk ∈ hsA l := hd.1.mem_iff.1 (List.getElem_mem _)
  rcases bT_spec l t l.length with ⟨-, h3⟩ | ⟨m, h3, ⟨i, hi, h4, h5, h6⟩, h7⟩
  · exact absurd h1 (h3 _ (hsA_mem hm) hm)
  · rw [h3]
    have ha := h7 _ (hsA_mem hm) hm h1
    obtain ⟨j, hj, he⟩ := List.getElem_of_mem (hd.1.mem_iff.2 h4)
    have hkj : k ≤ j := by
      rcases Nat.lt_or_ge j k with h | h
      · exact absurd (by rw [he]; exact h5) (h2 j h)
      · exact h
    have hb := near_mono hd hj hkj
    rw [he, h6] at hb
    rw [show m = sqAt l (d[k]'hk) by omega]

theorem lead_of (P : Nat → Prop) [DecidablePred P] : ∀ d : List Nat, ∃ p, p ≤ d.length ∧ (∀ j (hj : j < d.length), j < p → P (d[j]'hj)) ∧ (p = d.length ∨ ∃ h : p < d.length, ¬ P (d[p]'h))
  | [] => ⟨0, by simp, fun j hj => by simp at hj, .inl rfl⟩
  | a :: d => by
    by_cases ha : P a
    · obtain ⟨p, h1, h2, h3⟩ := lead_of P d
      refine ⟨p + 1, by simpa using h1, fun j hj hjp => ?_, ?_⟩
      · cases j with
        | zero => exact ha
        | succ j => exact h2 j (by simpa using hj) (by omega)
      · rcases h3 with h3 | ⟨h, h3⟩
        · exact .inl (by simp [h3])
        · exact .inr ⟨by simpa using h, by simpa using h3⟩
    · exact ⟨0, by simp, fun j hj h => by omega, .inr ⟨by simp, by simpa using ha⟩⟩

theorem cnt_ref {l : List St} {d : List Nat} (hd : NrP l d) (ht : ∀ i ∈ d, teamAt l i = 0 ∨ teamAt l i = 1) : cntT l d = refT l := by
  cases hdd : d with
  | nil =>
    subst hdd
    have e0 := bT_none hd (t := 0) (by simp)
    have e1 := bT_none hd (t := 1) (by simp)
    unfold refT; rw [e0, e1]; rfl
  | cons a ds =>
    have hd0 : 0 < d.length := by rw [hdd]; simp
    have e0 : d[0]'hd0 = a := by subst hdd; rfl
    have hc : cntT l d = if fidx (fun i => teamAt l i != teamAt l a) d < 0 then (teamAt l a, ((d.length : Nat) : Int)) else
      if ptsN l d (fidx (fun i => teamAt l i != teamAt l a) d).toNat (sqAt l (d.getD (fidx (fun i => teamAt l i != teamAt l a) d).toNat 0)) = 0 then (-1, 0)
      else (teamAt l a, ((ptsN l d (fidx (fun i => teamAt l i != teamAt l a) d).toNat (sqAt l (d.getD (fidx (fun i => teamAt l i != teamAt l a) d).toNat 0)) : Nat) : Int)) := by subst hdd; rfl
    rw [← hdd]
    rw [hc]
    obtain ⟨T, hT⟩ : ∃ T, teamAt l a = T := ⟨_, rfl⟩
    rw [hT]
    have hT01 : T = 0 ∨ T = 1 := by rw [← hT]; exact ht a (by rw [hdd]; simp)
    have hbT : bT l T l.length = some (sqAt l a) := by
      have := bT_some hd hd0 (t := T) (by rw [e0, hT]) (fun j hj => by omega)
      rwa [e0] at this
    rcases fidx_two (fun i => teamAt l i != T) d with ⟨h1, h2⟩ | ⟨m, hm, h1, h2, h3⟩
    · rw [h1, if_pos (by omega)]
      have hall : ∀ i ∈ d, teamAt l i = T := fun i hi => by
        obtain ⟨j, hj, rfl⟩ := List.getElem_of_mem hi
        have := h2 j hj
        simpa using this
      have hcK : cK l T none l.length = d.length := by
        rw [cK_near hd, List.filter_eq_self.2]
        intro i hi
        simp [hall i hi]
      unfold refT
      rcases hT01 with rfl | rfl
      · rw [hbT, bT_none hd (t := 1) (fun i hi => by rw [hall i hi]; omega)]
        show _ = ((0 : Int), ((cK l 0 none l.length : Nat) : Int))
        rw [hcK]
      · rw [hbT, bT_none hd (t := 0) (fun i hi => by rw [hall i hi]; omega)]
        show _ = ((1 : Int), ((cK l 1 none l.length : Nat) : Int))
        rw [hcK]
    · rw [h1, if_neg (by omega), Int.toNat_natCast]
      have hgd : d.getD m 0 = d[m]'hm := by rw [List.getD_eq_getElem?_getD, List.getElem?_eq_getElem hm]; rfl
      rw [hgd]
      obtain ⟨far, hfar⟩ : ∃ far, sqAt l (d[m]'hm) = far := ⟨_, rfl⟩
      rw [hfar]
      have hbef : ∀ j (hj : j < m), teamAt l (d[j]'(by omega)) = T := fun j hj => by have := h3 j hj; simpa using this
      have hne : teamAt l (d[m]'hm) ≠ T := by simpa using h2
      have hU : teamAt l (d[m]'hm) = 1 - T := by
        have := ht _ (List.getElem_mem hm)
        rcases hT01 with rfl | rfl <;> rcases this with h | h <;> omega
      have hbU : bT l (1 - T) l.length = some far := by
        have := bT_some hd hm (t := 1 - T) hU (fun j hj => by rw [hbef j hj]; rcases hT01 with rfl | rfl <;> omega)
        rwa [hfar] at this
      -- the leading ones
      obtain ⟨p, hpl, hlt, hend⟩ := lead_of (fun i => sqAt l i < far) d
      have hpm : p ≤ m := by
        rcases Nat.lt_or_ge m p with h | h
        · have := hlt m hm h; omega
        · exact h
      have hge : ∀ j (hj : j < d.length), p ≤ j → far ≤ sqAt l (d[j]'hj) := fun j hj hjp => by
        have hpd : p < d.length := by omega
        have h6 : ¬ sqAt l (d[p]'hpd) < far := by
          rcases hend with h | ⟨h, h'⟩
          · omega
          · exact h'
        have := near_mono hd hj hjp
        omega
      have hpts : ptsN l d m far = p := by
        refine ptsN_at (by omega) hpm hlt ?_
        by_cases e : p = m
        · exact .inl e
        · exact .inr ⟨by omega, by have := hge p (by omega) (Nat.le_refl _); omega⟩
      have hcK : cK l T (some far) l.length = p := by
        rw [cK_near hd]
        have hsp : d = d.take p ++ d.drop p := (List.take_append_drop p d).symm
        conv => lhs; rw [hsp]
        rw [List.filter_append, List.length_append, List.filter_eq_self.2, List.filter_eq_nil_iff.2]
        · rw [List.length_take, List.length_nil]; omega
        · intro i hi
          obtain ⟨j, hj, rfl⟩ := List.getElem_of_mem hi
          rw [List.length_drop] at hj
          rw [List.getElem_drop]
          have := hge (p + j) (by omega) (by omega)
          simp
          intro _
          omega
        · intro i hi
          obtain ⟨j, hj, rfl⟩ := List.getElem_of_mem hi
          rw [List.length_take] at hj
          rw [List.getElem_take]
          simp [hbef j (by omega), hlt j (by omega) (by omega)]
      rw [hpts]
      have h0 : sqAt l a ≤ far := by
        have := near_mono hd hm (Nat.zero_le m)
        rw [e0, hfar] at this; exact this
      have hp0 : p = 0 ↔ sqAt l a = far := by
        constructor
        · intro h
          have := hge 0 hd0 (by omega)
          rw [e0] at this; omega
        · intro h
          rcases Nat.eq_zero_or_pos p with h' | h'
          · exact h'
          · have := hlt 0 hd0 h'
            rw [e0] at this; omega
      unfold refT
      rcases hT01 with rfl | rfl
      · have hb1 : bT l 1 l.length = some far := hbU
        rw [hbT, hb1]
        show _ = (if sqAt l a = far then _ else if far < sqAt l a then _ else _ : Int × Int)
        by_cases hp1 : p = 0
        · rw [if_pos hp1, if_pos (hp0.1 hp1)]
        · rw [if_neg hp1, if_neg (fun h => hp1 (hp0.2 h)), if_neg (by omega), hcK]
      · have : bT l 0 l.length = some far := hbU
        rw [hbT, this]
        show _ = (if far = sqAt l a then _ else if sqAt l a < far then _ else _ : Int × Int)
        by_cases hp1 : p = 0
        · rw [if_pos hp1, if_pos (hp0.1 hp1).symm]
        · rw [if_neg hp1, if_neg (fun h => hp1 (hp0.2 h.symm)), if_pos (by have := fun h => hp1 (hp0.2 h); omega), hcK]


end Go.Proofs.YtmcpnoailbmkkaaGreatDoor
/- Layer 2: Count. -/
namespace Go.Proofs.YtmcpnoailbmkkaaGreatDoor
open Go Go.RowKit Go.Proofs
attribute [local irreducible] J JQ JL JA JD

def PrN (f : FuncId) (caps : Array Value) (p : Nat → Bool) (l : List Nat) (w0 : World) : Prop := ∀ x ∈ l, ∀ W, Below w0.heap.size w0 W → Calls Tryz.prog f (#[] ++ #[.int .i64 (x : Nat)] ++ caps) W (Back (.bool (p x)) W)
theorem teamAt_get {l : List St} {i : Nat} {x : St} (h : i < l.length) (hx : l[i]'h = x) : teamAt l i = x.t := by
 unfold teamAt; rw [List.getD_eq_getElem?_getD, List.getElem?_eq_getElem h, hx]; rfl
set_option maxRecDepth 100000 in
set_option maxHeartbeats 4000000 in
theorem IndexFuncN (f : FuncId) (caps : Array Value) (p : Nat → Bool) (l : List Nat) (v : Value) (w : World) [hf : Cf Tryz.prog f] (hcl : PrN f caps p l w) (hrow : Arr 1 eN w v l) : Calls Tryz.prog 66 #[v, .func (.func f) #[] caps] w (Back (.int .i64 (fidx p l)) w) := by
 have hrow0 := hrow
 obtain ⟨A, cap, rfl, -, ⟨hl, -⟩, hA⟩ := hrow
 refine J_enter (fun _ => False) (vs := [.slice A l.length cap, .func (.func f) #[] caps]) (k := 17) (l := [(0, .slice A l.length cap), (1, .func (.func f) #[] caps)]) Tryz.func66 rfl rfl Tryz.ntmps66 rfl rfl (Wd.start _) ?_
 refine s14 ?_
 refine xL (T := Nat) (fun k => k ≤ l.length ∧ ∀ j (hj : j < l.length), j < k → p (l[j]'hj) = false) (fun k => [(0, .slice A l.length cap), (1, .func (.func f) #[] caps), (7, .int .i64 (l.length : Nat)), (8, .int .i64 (k : Nat))]) (fun k => []) (fun k => l.length - k) 0 ⟨Nat.zero_le _, fun j _ h => absurd h (Nat.not_lt_zero _)⟩ ?_
 rintro k ⟨hk, hall⟩
 refine s3 ?_
 refine JL_dec (fun h9 => ?_) (fun h9 => ?_)
 ·refine s15 ?_
  have hltx : k < l.length := by omega
  obtain ⟨bx, qx, rfl, hh⟩ := hA (by intro e; subst e; simp at hltx)
  obtain ⟨x, hx⟩ : ∃ y, l[k]'hltx = y := ⟨_, rfl⟩
  have hmx : x ∈ l := by rw [← hx]; exact List.getElem_mem _
  refine s5 ?_
  refine aV (vHold (v := .int .i64 (x : Nat)) rfl rfl (fun h => h) hh hltx (by omega) (by rw [hx]; rfl)) ?_
  refine aW (ow_callB (ec_val rfl rfl rfl Cf.h) rfl rfl (fun w hw => hcl x hmx w hw.bel)) (fun _ _ => ?_)
  refine JL_bool (fun h16 => ?_) (fun h16 => ?_)
  ·refine s4 ?_
   refine kJ [(5, _)] ?_
   refine s11 ?_
   refine JR_one rfl (rr_tmp rfl) ?_
   intro w' hw
   exact ⟨by rw [fidx_at hltx (by rw [hx]; exact h16) (fun j hj => hall j (by omega) hj)], hw.bel⟩
  ·refine s6 ?_
   refine kJ [(0, _), (1, _), (7, _), (8, _)] ?_
   refine s4 ?_
   have hn : ∀ j (hj : j < l.length), j < k + 1 → p (l[j]'hj) = false := fun j hj hjk => by
    rcases Nat.lt_or_ge j k with h | h
    ·exact hall j hj h
    ·obtain rfl : j = k := by omega
     rw [hx]; exact h16
   exact xR (k + 1) ⟨by omega, hn⟩ (by omega) (hl := ⟨rfl, rfl, rfl, (congrArg some (by go_num)), trivial⟩)
 ·refine s10 ?_
  refine kJ [] ?_
  refine s5 ?_
  refine JR_one rfl (rr_tmp rfl) ?_
  intro w' hw
  exact ⟨by rw [fidx_none (fun j hj => hall j hj (by omega))], hw.bel⟩
set_option maxRecDepth 100000 in
set_option maxHeartbeats 4000000 in
theorem cnt1_any (l : List St) (A : Option Addr) (cap b b2 : Nat) (T : Int) (i : Nat) (w : World) (hc : (cellB b [.slice A l.length cap] 24).holds w) (hc2 : (cellB b2 [.int .i64 T] 3).holds w) (hrow : Arr 4 eT w (.slice A l.length cap) l) (hi : i < l.length) : Calls Tryz.prog 67 (#[] ++ #[.int .i64 (i : Nat)] ++ #[.pointer (some ⟨b, 0, none⟩), .pointer (some ⟨b2, 0, none⟩)]) w (Back (.bool (decide (teamAt l i ≠ T))) w) := by
 obtain ⟨A', cap', e0, -, ⟨hl, -⟩, hAl⟩ := hrow
 obtain ⟨rfl, -, rfl⟩ : A = A' ∧ True ∧ cap = cap' := by injection e0 with e1 _ e3; exact ⟨e1, trivial, e3⟩
 obtain ⟨bx, qx, rfl, hh⟩ := hAl (by intro e; subst e; simp at hi)
 have hltx : i < l.length := hi
 obtain ⟨⟨xt, xn, xx, xy⟩, hx⟩ : ∃ y, l[i]'hltx = y := ⟨_, rfl⟩
 have hmx : (⟨xt, xn, xx, xy⟩ : St) ∈ l := by rw [← hx]; exact List.getElem_mem _
 refine J_enter (fun _ => False) (vs := [.int .i64 (i : Nat), .pointer (some ⟨b, 0, none⟩), .pointer (some ⟨b2, 0, none⟩)]) (k := 9) (l := [(0, .int .i64 (i : Nat)), (1, .pointer (some ⟨b, 0, none⟩)), (2, .pointer (some ⟨b2, 0, none⟩))]) Tryz.func67 rfl rfl Tryz.ntmps67 rfl rfl (Wd.start _) ?_
 refine s6 ?_
 refine xD [0, 1, 2, 3, 4, 5, 6, 7] [0, 4, 5] ?_
 refine dL rfl (vOld rfl rfl (fun h => h) (cellB_get hc rfl)) ?_
 refine s1 ?_
 refine dP rfl (pIdxI (i) rfl rfl rfl) ?_
 refine s1 ?_
 refine dL rfl (vHold (v := .int .i64 xt) rfl rfl (fun h => h) hh hltx (by omega) (by rw [hx]; rfl)) ?_
 refine dL rfl (vOld rfl rfl (fun h => h) (cellB_get hc2 rfl)) ?_
 refine s5 ?_
 refine JR_one rfl (rr_tmp rfl) ?_
 intro w' hw
 exact ⟨by rw [teamAt_get hltx hx], hw.bel⟩
/-- Who counts, how many; the error. -/
def cntF (l : List St) : Int × Int × Int := if chkB l = true then ((refT l).1, (refT l).2, 0) else (0, 0, 2)
theorem cnt_at {l : List St} {L : List Nat} {p q : Int} (hc : chkB l = true) (hL : NrP l L) (h : cntT l L = (p, q)) : Value.tuple #[.int .i64 p, .int .i64 q, .int .i64 0] = .tuple #[.int .i64 (cntF l).1, .int .i64 (cntF l).2.1, .int .i64 (cntF l).2.2] := by
 have h1 := cnt_ref hL (fun i hi => by
  have hi2 := hsA_mem (hL.1.mem_iff.1 hi)
  have h2 := (chk_facts hc).2 i hi2
  rw [teamAt_get hi2 rfl]
  unfold okSt at h2
  omega)
 unfold cntF
 rw [if_pos hc, ← h1, h]
theorem bne_dec (l : List St) (T : Int) : (fun i => teamAt l i != T) = fun i => decide (teamAt l i ≠ T) := by
 funext i
 by_cases h : teamAt l i = T
 ·simp [h]
 ·simp [h]
set_option maxRecDepth 100000 in
set_option maxHeartbeats 4000000 in
theorem Count_any (l : List St) (v : Value) (w : World) (hrow : Arr 4 eT w v l) : Calls Tryz.prog 23 #[v] w (Back (.tuple #[.int .i64 (cntF l).1, .int .i64 (cntF l).2.1, .int .i64 (cntF l).2.2]) w) := by
 have hrow0 := hrow
 obtain ⟨A, cap, rfl, -, ⟨hl, -⟩, hA⟩ := hrow
 refine J_enter (fun _ => False) (vs := [.slice A l.length cap]) (k := 61) (l := [(0, .slice A l.length cap)]) Tryz.func23 rfl rfl Tryz.ntmps23 rfl rfl (Wd.start _) ?_
 refine s2 ?_
 refine aW (oX [_]) (fun b1 hb1 => ?_)
 refine aW oA (fun b2 hb2 => ?_)
 refine s8 ?_
 refine aCB (fun w hw => Check_any l _ w (hrow0.up ET hw.bel)) ?_
 refine JL_bool (fun h9 => ?_) (fun h9 => ?_)
 ·refine s7 ?_
  have hl16 := (chk_facts h9).1
  have okm : ∀ s ∈ l, okSt s := fun s hs => by
   obtain ⟨j, hj, rfl⟩ := List.getElem_of_mem hs
   exact (chk_facts h9).2 j hj
  refine kJ [(1, _), (2, _), (3, _)] ?_
  refine s2 ?_
  refine aW (oR (fun w hw => nearest_any l _ w (hrow0.up ET hw.bel) (fun s hs => (okm s hs).2.1) (fun s hs => (okm s hs).2.2) (by omega))) (fun t12 ht12 => ?_)
  obtain ⟨L, lA, lc⟩ := t12
  dsimp only at ht12 ⊢
  have hL := ht12
  refine s9 ?_
  refine JL_dec (fun h15 => ?_) (fun h15 => ?_)
  ·refine s4 ?_
   refine kJ [(2, _)] ?_
   refine s8 ?_
   refine JR_three rfl (rr_cell rfl Agg.h (by repeat constructor) (by rfl)) (rr_tmp rfl) (rr_tmp rfl) ?_
   intro w' hw
   obtain rfl : L = [] := List.length_eq_zero_iff.1 (by omega)
   exact ⟨congrArg Ending.returned (cnt_at h9 hL (p := -1) (q := 0) rfl), hw.bel⟩
  ·refine s6 ?_
   obtain ⟨a, ds, rfl⟩ : ∃ a ds, L = a :: ds := by
    cases L with
    | nil => exact absurd rfl h15
    | cons a ds => exact ⟨a, ds, rfl⟩
   refine J_fact (fun hw => ?_)
   obtain ⟨g, rfl⟩ := own_some hw (ty := 3) (k := 1) (m := (a :: ds).length) (c := lc) (A := lA) (xs := (a :: ds).flatMap eN) (by repeat constructor) (by simp)
   clear hw
   have hLl : ∀ i ∈ a :: ds, i < l.length := fun i hi => hsA_mem (hL.1.mem_iff.1 hi)
   have hal : a < l.length := hLl a (by simp)
   obtain ⟨bx, qx, rfl, hh⟩ := hA (by intro e; subst e; simp at hal)
   obtain ⟨⟨xt, xn, xx, xy⟩, hx⟩ : ∃ y, l[a]'hal = y := ⟨_, rfl⟩
   have hta : teamAt l a = xt := teamAt_get hal hx
   have hL0 : 0 < (a :: ds).length := by simp
   have hL16 : (a :: ds).length ≤ 16 := by rw [hL.1.length_eq]; have := hsN_len l l.length; unfold hsA; omega
   refine kJ [(1, _), (2, _), (3, _), (5, _)] ?_
   refine xDx [0, 1, 2, 3, 4, 5, 6, 7] [] [0, 3, 6] [cellB b1 [.slice (some ⟨bx, qx, none⟩) l.length cap] 24, ownB 3 1 (some ⟨g, 0, none⟩) (a :: ds).length lc ((a :: ds).flatMap eN)] ?_
   refine s2 ?_
   refine dP rfl (pIdxI (0) rfl rfl rfl rfl) ?_
   refine dX rfl (vOwn (v := .int .i64 (a : Nat)) EN (L := a :: ds) (j := 0) rfl rfl (by repeat constructor) (by simp) (by omega) rfl) ?_
   refine dP rfl (pIdxI (a) rfl rfl rfl) ?_
   refine s1 ?_
   refine dX rfl (vHold (v := .int .i64 xt) rfl rfl (fun h => h) hh hal (by omega) (by rw [hx]; rfl)) ?_
   refine s4 ?_
   refine kJ [(1, _), (2, _), (3, _), (5, _)] ?_
   refine s3 ?_
   refine aCB (fun w hw => IndexFuncN 67 #[.pointer (some ⟨b1, 0, none⟩), .pointer (some ⟨b2, 0, none⟩)] (fun i => decide (teamAt l i ≠ xt)) (a :: ds) _ w (fun i hi W hW => cnt1_any l (some ⟨bx, qx, none⟩) cap b1 b2 xt i W ((hw.up hW).ok (cellB b1 [.slice (some ⟨bx, qx, none⟩) l.length cap] 24) (by repeat constructor)).1 ((hw.up hW).ok (cellB b2 [.int .i64 (xt)] 3) (by repeat constructor)).1 (hrow0.up ET (hw.up hW).bel) (hLl i hi)) (own_arr (A := some ⟨g, 0, none⟩) (c := lc) EN hw (by repeat constructor) (by omega))) ?_
   refine s8 ?_
   refine JL_dec (fun h27 => ?_) (fun h27 => ?_)
   ·refine s4 ?_
    refine kJ [(2, _), (5, _)] ?_
    refine s11 ?_
    refine JR_three rfl (rr_cell rfl Agg.h (by repeat constructor) (by rfl)) (rr_tmp rfl) (rr_tmp rfl) ?_
    intro w' hw
    exact ⟨congrArg Ending.returned (cnt_at h9 hL (p := xt) (q := (((a :: ds).length : Nat) : Int)) (by unfold cntT; dsimp only; rw [hta, bne_dec, if_pos h27])), hw.bel⟩
   ·refine s6 ?_
    rcases fidx_two (fun i => decide (teamAt l i ≠ xt)) (a :: ds) with ⟨hfm, -⟩ | ⟨m, hm, hfm, -, -⟩
    ·exact absurd (by rw [hfm]; decide) h27
    rw [hfm]
    obtain ⟨far, hfar⟩ : ∃ far, sqAt l ((a :: ds)[m]'hm) = far := ⟨_, rfl⟩
    obtain ⟨u, hu⟩ : ∃ u, (a :: ds)[m]'hm = u := ⟨_, rfl⟩
    have hul : u < l.length := hLl u (by rw [← hu]; exact List.getElem_mem _)
    obtain ⟨⟨yt, yn, yx, yy⟩, hy⟩ : ∃ y, l[u]'hul = y := ⟨_, rfl⟩
    have hmy : (⟨yt, yn, yx, yy⟩ : St) ∈ l := by rw [← hy]; exact List.getElem_mem _
    have hfy : sqd yx yy = far := by rw [← hfar, hu, sqAt_get hul hy]
    refine kJ [(1, _), (2, _), (3, _), (5, _), (6, _)] ?_
    refine xD [0, 1, 2, 3, 4, 5, 6, 7, 8, 9] [0, 4, 7] ?_
    refine s3 ?_
    refine dP rfl (pIdxI (m) rfl rfl rfl) ?_
    refine dL rfl (vOwn (v := .int .i64 (u : Nat)) EN (L := a :: ds) (j := m) rfl rfl (by repeat constructor) hm (by omega) (by rw [hu]; rfl)) ?_
    refine dP rfl (pIdxI (u) rfl rfl rfl) ?_
    refine s1 ?_
    refine dL rfl (vHoldP (i := 2) (m := 2) (cs := [.int .i64 yx, .int .i64 yy]) rfl rfl (fun h => h) hh hul rfl (by omega) (by rw [hy]; rfl)) ?_
    refine dCB rfl (fun w hw => square_any yx yy (play_bound (okm _ hmy).2.2) w) ?_
    refine s5 ?_
    refine xL (T := Nat) (fun k => k ≤ m ∧ ∀ j (hj : j < (a :: ds).length), j < k → sqAt l ((a :: ds)[j]'hj) < far) (fun k => [(1, .pointer (some ⟨b1, 0, none⟩)), (2, .pointer (some ⟨b2, 0, none⟩)), (3, .int .i64 (k : Nat)), (5, .slice (some ⟨g, 0, none⟩) (a :: ds).length lc), (6, .int .i64 (m : Nat)), (7, .int .i64 far)]) (fun k => [cellB b1 [.slice (some ⟨bx, qx, none⟩) l.length cap] 24, cellB b2 [.int .i64 (xt)] 3, ownB 3 1 (some ⟨g, 0, none⟩) (a :: ds).length lc ((a :: ds).flatMap eN)]) (fun k => m - k) 0 ⟨Nat.zero_le _, fun j _ h => absurd h (Nat.not_lt_zero _)⟩ ?_ (hl := ⟨rfl, rfl, rfl, rfl, rfl, (by rw [hfy]; rfl), trivial⟩)
    rintro k ⟨hkm, hall⟩
    refine s2 ?_
    by_cases hkm2 : k < m
    ·have hkd : k < (a :: ds).length := by omega
     obtain ⟨v, hv⟩ : ∃ v, (a :: ds)[k]'hkd = v := ⟨_, rfl⟩
     have hvl : v < l.length := hLl v (by rw [← hv]; exact List.getElem_mem _)
     obtain ⟨⟨zt, zn, zx, zy⟩, hz⟩ : ∃ y, l[v]'hvl = y := ⟨_, rfl⟩
     have hmz : (⟨zt, zn, zx, zy⟩ : St) ∈ l := by rw [← hz]; exact List.getElem_mem _
     refine xD [0, 1, 2, 3, 4, 5, 6, 7, 8, 9, 10, 11, 13, 12, 14] [4, 8, 11] ?_
     refine s3 ?_
     refine dDecT ?_ (by omega)
     refine s4 ?_
     refine dP rfl (pIdxI (k) rfl rfl rfl) ?_
     refine dL rfl (vOwn (v := .int .i64 (v : Nat)) EN (L := a :: ds) (j := k) rfl rfl (by repeat constructor) hkd (by omega) (by rw [hv]; rfl)) ?_
     refine dP rfl (pIdxI (v) rfl rfl rfl) ?_
     refine s1 ?_
     refine dL rfl (vHoldP (i := 2) (m := 2) (cs := [.int .i64 zx, .int .i64 zy]) rfl rfl (fun h => h) hh hvl rfl (by omega) (by rw [hz]; rfl)) ?_
     refine s1 ?_
     refine dCB rfl (fun w hw => square_any zx zy (play_bound (okm _ hmz).2.2) w) ?_
     refine s1 ?_
     refine dDec (fun h54 => ?_) (fun h54 => ?_)
     ·refine dO [15] ?_
      refine s7 ?_
      refine kJ [(1, _), (2, _), (3, _), (5, _), (6, _), (7, _)] ?_
      refine s6 ?_
      have hn : ∀ j (hj : j < (a :: ds).length), j < k + 1 → sqAt l ((a :: ds)[j]'hj) < far := fun j hj hjk => by
       rcases Nat.lt_or_ge j k with h | h
       ·exact hall j hj h
       ·obtain rfl : j = k := by omega
        rw [hv, sqAt_get hvl hz]; exact h54
      exact xR (k + 1) ⟨by omega, hn⟩ (by omega) (hl := ⟨rfl, rfl, (congrArg some (by go_num)), rfl, rfl, rfl, trivial⟩)
     ·refine dO [15] ?_
      refine s11 ?_
      refine kJ [(2, _), (3, _)] ?_
      refine s3 ?_
      refine JL_dec (fun h59 => ?_) (fun h59 => ?_)
      ·refine s12 ?_
       refine JR_three rfl (rr_cell rfl Agg.h (by repeat constructor) (by rfl)) (rr_tmp rfl) (rr_tmp rfl) ?_
       intro w' hw
       have hpt : ptsN l (a :: ds) m far = k := ptsN_at (by omega) hkm hall (.inr ⟨by omega, by rw [hv, sqAt_get hvl hz]; exact h54⟩)
       have hgd : (a :: ds).getD m 0 = u := by rw [List.getD_eq_getElem?_getD, List.getElem?_eq_getElem hm, hu]; rfl
       have hsu : sqAt l u = far := by rw [← hfar, hu]
       exact ⟨congrArg Ending.returned (cnt_at h9 hL (p := -1) (q := 0) (by unfold cntT; dsimp only; rw [hta, bne_dec, hfm, if_neg (by omega), Int.toNat_natCast, hgd, hsu, hpt, if_pos (by omega)])), hw.bel⟩
      ·refine s15 ?_
       refine JR_three rfl (rr_cell rfl Agg.h (by repeat constructor) (by rfl)) (rr_tmp rfl) (rr_tmp rfl) ?_
       intro w' hw
       have hpt : ptsN l (a :: ds) m far = k := ptsN_at (by omega) hkm hall (.inr ⟨by omega, by rw [hv, sqAt_get hvl hz]; exact h54⟩)
       have hgd : (a :: ds).getD m 0 = u := by rw [List.getD_eq_getElem?_getD, List.getElem?_eq_getElem hm, hu]; rfl
       have hsu : sqAt l u = far := by rw [← hfar, hu]
       exact ⟨congrArg Ending.returned (cnt_at h9 hL (p := xt) (q := ((k : Nat) : Int)) (by unfold cntT; dsimp only; rw [hta, bne_dec, hfm, if_neg (by omega), Int.toNat_natCast, hgd, hsu, hpt, if_neg (by omega)])), hw.bel⟩
    ·refine xD [0, 1, 2, 3, 4, 5, 6, 7, 8, 9, 10, 11, 12, 13, 14, 15] [4, 8, 11] ?_
     refine s3 ?_
     refine dDecF ?_ (by omega)
     refine s23 ?_
     refine kJ [(2, _), (3, _)] ?_
     refine s3 ?_
     refine JL_dec (fun h59 => ?_) (fun h59 => ?_)
     ·refine s12 ?_
      refine JR_three rfl (rr_cell rfl Agg.h (by repeat constructor) (by rfl)) (rr_tmp rfl) (rr_tmp rfl) ?_
      intro w' hw
      have hpt : ptsN l (a :: ds) m far = k := ptsN_at (by omega) hkm hall (.inl (by omega))
      have hgd : (a :: ds).getD m 0 = u := by rw [List.getD_eq_getElem?_getD, List.getElem?_eq_getElem hm, hu]; rfl
      have hsu : sqAt l u = far := by rw [← hfar, hu]
      exact ⟨congrArg Ending.returned (cnt_at h9 hL (p := -1) (q := 0) (by unfold cntT; dsimp only; rw [hta, bne_dec, hfm, if_neg (by omega), Int.toNat_natCast, hgd, hsu, hpt, if_pos (by omega)])), hw.bel⟩
     ·refine s15 ?_
      refine JR_three rfl (rr_cell rfl Agg.h (by repeat constructor) (by rfl)) (rr_tmp rfl) (rr_tmp rfl) ?_
      intro w' hw
      have hpt : ptsN l (a :: ds) m far = k := ptsN_at (by omega) hkm hall (.inl (by omega))
      have hgd : (a :: ds).getD m 0 = u := by rw [List.getD_eq_getElem?_getD, List.getElem?_eq_getElem hm, hu]; rfl
      have hsu : sqAt l u = far := by rw [← hfar, hu]
      exact ⟨congrArg Ending.returned (cnt_at h9 hL (p := xt) (q := ((k : Nat) : Int)) (by unfold cntT; dsimp only; rw [hta, bne_dec, hfm, if_neg (by omega), Int.toNat_natCast, hgd, hsu, hpt, if_neg (by omega)])), hw.bel⟩
 ·refine s5 ?_
  refine kJ [(2, _)] ?_
  refine s8 ?_
  refine JR_three rfl (rr_cell rfl Agg.h (by repeat constructor) (by rfl)) (rr_tmp rfl) (rr_tmp rfl) ?_
  intro w' hw
  exact ⟨by unfold cntF; rw [h9]; rfl, hw.bel⟩
end Go.Proofs.YtmcpnoailbmkkaaGreatDoor
/- Across layers, a rule book: what is asked of it. -/
namespace Go.Proofs.YtmcpnoailbmkkaaGreatDoor
open Go Go.RowKit Go.Proofs
attribute [local irreducible] J JQ JL JA JD

theorem bk_len {t : BkR} (hq : BkQ t) : t.L.length = 10 := by
 have h := congrArg List.length hq.1
 rw [List.length_map] at h
 rw [h]; rfl
theorem bk_W {t : BkR} {w : World} (hq : BkQ t) (hI : ∀ A ∈ bkI t, A.holds w) : BkW w t.L t.A t.c := by
 have h1 : w.ownsRow 0 112 6 (.slice t.A t.L.length t.c) t.L.length (t.L.flatMap eC) := hI (ownB 112 6 t.A t.L.length t.c (t.L.flatMap eC)) (by simp)
 have h2 : (grpB t.HA).holds w := hI _ (by simp)
 have h3 : (cellB t.b nmV 9).holds w := hI _ (by simp)
 have hl := bk_len hq
 exact ⟨Arr.of_own EC6 h1 (by omega), fun x hx => hq.2.1 x hx w h3 h2.1⟩
theorem bk_holds {t : BkR} {F : List ByteArray} {fA : Option Addr} {fc : Nat} {w : World} (hq : BkQ t) (hok : ∀ s ∈ F, okS s) (hI : ∀ A ∈ bkI t, A.holds w) (hfl : Arr 1 eS w (.slice fA F.length fc) F) (hB : hldQ t.L 1 F = none) : Calls Tryz.prog 11 #[.slice t.A t.L.length t.c, .int .i64 1, .slice fA F.length fc] w  (Ret w (fun s : SoT => SoP (hldM t.L 1 F).S s.L) (fun s => .tuple #[.slice s.A s.L.length s.c, .int .i64 0]) (fun s => [ownB 9 1 s.A s.L.length s.c (s.L.flatMap eS)])) := by
 have := Holds16 t.L t.A t.c 1 F fA fc hok w (bk_W hq hI) hfl
 unfold RetHd at this; rw [hB] at this; exact this
theorem bk_why {t : BkR} {F : List ByteArray} {fA : Option Addr} {fc : Nat} {w : World} (hq : BkQ t) (hok : ∀ s ∈ F, okS s) (hI : ∀ A ∈ bkI t, A.holds w) (hfl : Arr 1 eS w (.slice fA F.length fc) F) {r k : Nat} (hk : k = r) (hB : whyQ t.L 1 F (ruS r) = none) (hl : whyP t.L (hldM t.L 1 F) (ruS r) = stpL r) : Calls Tryz.prog 15 #[.slice t.A t.L.length t.c, .int .i64 1, .slice fA F.length fc, .string (ruS k)] w  (Ret w (fun _ : Option Addr × Nat => True) (fun s => .tuple #[.slice s.1 1 s.2, .int .i64 0]) (fun s => [ownB 3 1 s.1 1 s.2 ((stpL r).flatMap eI)])) := by
 subst hk
 have := Why21 t.L t.A t.c 1 F fA fc (ruS k) hok ru_ok w (bk_W hq hI) hfl
 unfold RetWy at this; rw [hB] at this
 dsimp only at this
 rw [hl] at this
 exact this
theorem bk_proves {t : BkR} {F : List ByteArray} {fA : Option Addr} {fc : Nat} {w : World} (hq : BkQ t) (hok : ∀ s ∈ F, okS s) (hI : ∀ A ∈ bkI t, A.holds w) (hfl : Arr 1 eS w (.slice fA F.length fc) F) {r k : Nat} (hk : k = r) {lA : Option Addr} {lc : Nat} (hst : Arr 1 eI w (.slice lA (stpL r).length lc) (stpL r)) (hB : prvR t.L 1 F (ruS r) (stpL r) = .tuple #[.bool true, .int .i64 (-1), .int .i64 0]) : Calls Tryz.prog 16 #[.slice t.A t.L.length t.c, .int .i64 1, .slice fA F.length fc, .slice lA 1 lc, .string (ruS k)] w (Back (.tuple #[.bool true, .int .i64 (-1), .int .i64 0]) w) := by
 subst hk
 have := Proves12 t.L t.A t.c 1 F fA fc (stpL k) lA lc (ruS k) hok ru_ok w (bk_W hq hI) hfl hst (show 1 ≤ 100 by decide)
 rw [hB] at this
 exact this
abbrev awC : List St := [⟨0, 0, 0, 0⟩, ⟨0, 1, 0, 26214400⟩]
theorem aw_c : cntF awC = (0, 2, 0) := by decide +kernel
theorem aw_z : zoneR 0 (-196608000) = .tuple #[.int .i64 1, .int .i64 0] := by kernel_rfl
set_option maxRecDepth 100000 in
set_option maxHeartbeats 4000000 in
theorem awake_any (w : World) : Calls Tryz.prog 5 #[] w (Back (.bool true) w) := by
 refine J_enter (fun _ => False) (vs := []) (k := 38) (l := []) Tryz.func5 rfl rfl Tryz.ntmps5 rfl rfl (Wd.start _) ?_
 refine s7 ?_
 refine aP (rp_buildC (fun us => [.int .i64 0, .int .i64 0, .int .i64 0, .int .i64 0]) rfl rfl (fun w => by kernel_rfl)) ?_
 refine aP (rp_buildC (fun us => [.int .i64 0, us.getD 0 undef]) rfl rfl (fun w => by kernel_rfl)) ?_
 refine aP (rp_buildC (fun us => [.int .i64 0, us.getD 0 undef, us.getD 1 undef]) rfl rfl (fun w => by kernel_rfl)) ?_
 refine aW (ow_sliceC (vs := [_, _, _, _, _, _, _, _]) (ty := 43) rfl rfl (by rfl) rfl rfl (fun _ => by kernel_rfl)) (fun b10 hb10 => ?_)
 refine aCB (fun w hw => (Count_any awC _ w (cell_arr ET awC (hw.ok (cellB b10 [.int .i64 0, .int .i64 0, .int .i64 0, .int .i64 0, .int .i64 0, .int .i64 1, .int .i64 0, .int .i64 26214400] 43) (by repeat constructor)).1 rfl (by decide))).mono (fun _ _ h => by rw [aw_c] at h; exact h)) ?_
 refine s10 ?_
 refine kJ [(1, _), (2, _), (3, _)] ?_
 refine s1 ?_
 refine aP (rp_buildC (fun us => [.int .i64 0, us.getD 0 undef]) rfl rfl (fun w => by kernel_rfl)) ?_
 refine aCB (fun w hw => (Zone_any 0 (-196608000) w).mono (fun _ _ h => by rw [aw_z] at h; exact h)) ?_
 refine s8 ?_
 refine kJ [(1, _), (2, _), (3, _), (4, _), (5, _)] ?_
 refine s3 ?_
 refine aDecT ?_ rfl
 refine s3 ?_
 refine aDecT ?_ rfl
 refine s4 ?_
 refine aDecT ?_ rfl
 refine s4 ?_
 refine aDecT ?_ rfl
 refine s4 ?_
 refine aDecT ?_ rfl
 refine s5 ?_
 refine JR_one rfl (rr_tmp rfl) ?_
 intro w' hw
 exact ⟨rfl, hw.bel⟩
end Go.Proofs.YtmcpnoailbmkkaaGreatDoor
/- Across layers, the law: TopBook. -/
namespace Go.Proofs.YtmcpnoailbmkkaaGreatDoor
open Go Go.RowKit Go.Proofs
attribute [local irreducible] J JQ JL JA JD

theorem has_eq {S hL : List ByteArray} {k R : Nat} (h1 : ∀ x, x ∈ hL ↔ x ∈ S) (h2 : ∀ i, i < 10 → decide (ruS i ∈ S) = Nat.beq i R) (hk : k ≤ 9) : decide (decide (ruS k ∈ hL) ≠ decide (((R : Nat) : Int) = ((k : Nat) : Int))) = false := by
 have e1 : decide (ruS k ∈ hL) = decide (ruS k ∈ S) := decide_eq_decide.2 (h1 _)
 have e2 : Nat.beq k R = decide (((R : Nat) : Int) = ((k : Nat) : Int)) := by
  rw [Bool.eq_iff_iff, decide_eq_true_eq]
  exact ⟨fun h => by have := Nat.eq_of_beq_eq_true h; omega, fun h => by rw [show k = R by omega]; exact Nat.beq_refl R⟩
 rw [e1, h2 k (by omega), e2]
 exact decide_eq_false (fun h => h rfl)
theorem tk_any (r : St → Bool) {l : List St} {KL : List Int} {k j : Nat} {b : Bool} {s : St} (h : k < KL.length) (hj : KL[k]'h = (j : Nat)) (hl : j < l.length) (hs : l[j]'hl = s) (hb : b = (KL.take k).any (fun i => r (l.getD i.toNat ⟨0, 0, 0, 0⟩))) : (KL.take (k + 1)).any (fun i => r (l.getD i.toNat ⟨0, 0, 0, 0⟩)) = (b || r s) := by
 rw [any_tk _ h, ← hb, hj]
 congr 2
 simp [hl, hs]
theorem ju_parts {c : Cd} {n : Int} {l m : List St} {x : Th} (h : judE c n l m x = 0) : ccB c = true ∧ thrB l m x = true := by
 unfold judE at h
 split at h
 ·rename_i h1; exact h1
 ·cases h
theorem on_cen (s : St) : ∃ e, onR s.x s.y = .tuple #[.bool (cen s), .int .i64 e] := by
 unfold onR cen
 by_cases h : OkS s.x s.y
 ·rw [if_pos h, decide_eq_true h]; exact ⟨0, rfl⟩
 ·rw [if_neg h, decide_eq_false h]; exact ⟨2, rfl⟩
theorem bit_get {b0 b1 b2 b3 b4 b5 b6 b7 : Bool} {k : Nat} (h : k < 8) : ([.bool b0, .bool b1, .bool b2, .bool b3, .bool b4, .bool b5, .bool b6, .bool b7] : List Value)[0 + k * 1 + 0]? = some (.bool ([b0, b1, b2, b3, b4, b5, b6, b7].getD k false)) := by
 rcases (show k = 0 ∨ k = 1 ∨ k = 2 ∨ k = 3 ∨ k = 4 ∨ k = 5 ∨ k = 6 ∨ k = 7 by omega) with rfl | rfl | rfl | rfl | rfl | rfl | rfl | rfl <;> rfl
theorem mv_none {m : List St} {s : St} (h : fidx (isB s.t s.n) m < 0) : mvQ m s = false := by unfold mvQ; rw [look_none.1 h]
theorem mv_some {m : List St} {s z : St} {k : Nat} (h : fidx (isB s.t s.n) m = (k : Nat)) (hk : k < m.length) (hz : m[k]'hk = z) : mvQ m s = !cen z := by
 obtain ⟨j, hj, e, h1, h2⟩ := fidx_in (p := isB s.t s.n) (l := m) (by omega)
 obtain rfl : j = k := by omega
 have : m.find? (isB s.t s.n) = some z := by
  rw [List.find?_eq_some_iff_getElem]
  exact ⟨by rw [← hz]; exact h1, j, hj, hz, fun i hi => by rw [h2 i hi]; rfl⟩
 unfold mvQ; rw [this]
set_option maxRecDepth 100000 in
set_option maxHeartbeats 4000000 in
theorem Book_law (c : Cd) (n : Int) (l m : List St) (x : Th) (A : Option Addr) (cap : Nat) (A2 : Option Addr) (cap2 : Nat) (w : World) (hrow : Arr 4 eT w (.slice A l.length cap) l) (hrow2 : Arr 4 eT w (.slice A2 m.length cap2) m) : Calls Tryz.prog 3 #[Cdv c, .int .i64 n, .slice A l.length cap, Thv x A2 m.length cap2] w (Back (.bool true) w) := by
 obtain ⟨kf, kt, ks, ke, kp⟩ := c
 obtain ⟨xteam, xnn, xlate, xshort, xhow⟩ := x
 dsimp only [Thv]
 have hrow0 := hrow
 have hrow20 := hrow2
 obtain ⟨A1, cap1, e1, -, ⟨hll, -⟩, hA⟩ := hrow
 obtain ⟨rfl, -, rfl⟩ : A = A1 ∧ True ∧ cap = cap1 := by injection e1 with e1 _ e3; exact ⟨e1, trivial, e3⟩
 clear e1
 obtain ⟨A3, cap3, e3, -, ⟨hml, -⟩, hA2⟩ := hrow2
 obtain ⟨rfl, -, rfl⟩ : A2 = A3 ∧ True ∧ cap2 = cap3 := by injection e3 with e1 _ e3; exact ⟨e1, trivial, e3⟩
 clear e3
 refine J_enter (fun _ => False) (vs := [.agg #[.int .i64 kf, .int .i64 kt, .int .i64 ks, .int .i64 ke, .bool kp], .int .i64 n, .slice A l.length cap, .agg #[.int .i64 xteam, .int .i64 xnn, .bool xlate, .bool xshort, .int .i64 xhow, .slice A2 m.length cap2]]) (k := 275) (l := [(0, .agg #[.int .i64 kf, .int .i64 kt, .int .i64 ks, .int .i64 ke, .bool kp]), (1, .int .i64 n), (2, .slice A l.length cap), (3, .agg #[.int .i64 xteam, .int .i64 xnn, .bool xlate, .bool xshort, .int .i64 xhow, .slice A2 m.length cap2])]) Tryz.func3 rfl rfl Tryz.ntmps3 rfl rfl (Wd.start _) ?_
 refine s2 ?_
 refine aW (oX [_, _, _, _, _]) (fun b4 hb4 => ?_)
 refine aW (oX [_, _, _, _, _, _]) (fun b7 hb7 => ?_)
 refine s9 ?_
 refine JL_dec (fun h38 => ?_) (fun h38 => ?_)
 ·refine s10 ?_
  refine kJ [] ?_
  refine s1 ?_
  refine aCB (fun w hw => awake_any w) ?_
  refine s5 ?_
  refine JR_one rfl (rr_tmp rfl) ?_
  intro w' hw
  exact ⟨rfl, hw.bel⟩
 ·refine s5 ?_
  refine JL_dec (fun h43 => ?_) (fun h43 => ?_)
  ·refine s5 ?_
   refine kJ [] ?_
   refine s1 ?_
   refine aCB (fun w hw => awake_any w) ?_
   refine s5 ?_
   refine JR_one rfl (rr_tmp rfl) ?_
   intro w' hw
   exact ⟨rfl, hw.bel⟩
  ·refine s7 ?_
   by_cases hj : judE (⟨kf, kt, ks, ke, kp⟩ : Cd) n l m (⟨xteam, xnn, xlate, xshort, xhow⟩ : Th) = 0
   ·refine kJ [(1, _), (2, _), (4, _), (7, _)] ?_
    refine s5 ?_
    refine aW (oR (fun w hw => (Judge_any (⟨kf, kt, ks, ke, kp⟩ : Cd) n l m (⟨xteam, xnn, xlate, xshort, xhow⟩ : Th) _ A2 cap2 w (hrow0.up ET hw.bel) (hrow20.up ET hw.bel)).mono (fun _ _ h => by unfold RetJu at h; rw [if_pos hj] at h; exact h))) (fun t51 ht51 => ?_)
    obtain ⟨rA, rc, rL⟩ := t51
    dsimp only [ocI, Ruv, List.cons_append, List.nil_append]
    obtain ⟨R, hR⟩ : ∃ R : Nat, ruleF (⟨kf, kt, ks, ke, kp⟩ : Cd) n l m (⟨xteam, xnn, xlate, xshort, xhow⟩ : Th) = ((R : Nat) : Int) := ⟨_, rul_n9 _ _ _ _⟩
    rw [hR]
    obtain ⟨ch, hch⟩ : ∃ ch, ch = choF (⟨xteam, xnn, xlate, xshort, xhow⟩ : Th) ((R : Nat) : Int) := ⟨_, rfl⟩
    rw [← hch]
    refine s3 ?_
    refine aW oA (fun b9 hb9 => ?_)
    refine s5 ?_
    by_cases hp : proE (⟨kf, kt, ks, ke, kp⟩ : Cd) n xteam l = 0
    ·refine kJ [(1, _), (2, _), (4, _), (7, _), (9, _), (10, _)] ?_
     refine s6 ?_
     refine aW (oR (fun w hw => (Protected_any (⟨kf, kt, ks, ke, kp⟩ : Cd) n xteam l _ w (hrow0.up ET hw.bel)).mono (fun _ _ h => by unfold RetPr at h; rw [if_pos hp] at h; exact h))) (fun t60 ht60 => ?_)
     obtain ⟨kA, kc, fA, fc⟩ := t60
     dsimp only [List.cons_append, List.nil_append]
     obtain ⟨KL, hKL⟩ : ∃ KL, KL = whN (kpB (⟨kf, kt, ks, ke, kp⟩ : Cd) n xteam) l l.length := ⟨_, rfl⟩
     obtain ⟨FL, hFL⟩ : ∃ FL, FL = whN (fxB (⟨kf, kt, ks, ke, kp⟩ : Cd) n xteam) l l.length := ⟨_, rfl⟩
     rw [← hKL, ← hFL]
     have hKl : KL.length ≤ l.length := by rw [hKL]; exact whN_len _ _ _
     have hFl0 : FL.length ≤ l.length := by rw [hFL]; exact whN_len _ _ _
     refine s11 ?_
     refine kJ [(1, _), (2, _), (4, _), (7, _), (9, _), (10, _), (11, _), (12, _), (13, _)] ?_
     refine s3 ?_
     refine aDecF ?_ (by decide)
     refine s3 ?_
     refine aDecF ?_ (by decide)
     refine s7 ?_
     have hdm : dis m := chk_dis (thr_parts (ju_parts hj).2).2.1
     refine kJ [(1, _), (2, _), (4, _), (7, _), (9, _), (11, _), (12, _)] ?_
     refine s12 ?_
     refine xL (T := Nat × Bool) (fun q => q.1 ≤ KL.length ∧ q.2 = (KL.take q.1).any (fun i => rmQ m (l.getD i.toNat ⟨0, 0, 0, 0⟩))) (fun q => [(1, .int .i64 n), (2, .slice A l.length cap), (4, .pointer (some ⟨b4, 0, none⟩)), (7, .pointer (some ⟨b7, 0, none⟩)), (9, .pointer (some ⟨b9, 0, none⟩)), (11, .slice kA KL.length kc), (12, .slice fA FL.length fc), (14, .bool q.2), (15, .bool false), (16, .int .i64 (q.1 : Nat))]) (fun q => [cellB b4 [.int .i64 kf, .int .i64 kt, .int .i64 ks, .int .i64 ke, .bool kp] 23, cellB b7 [.int .i64 xteam, .int .i64 xnn, .bool xlate, .bool xshort, .int .i64 xhow, .slice A2 m.length cap2] 26, cellB b9 [.int .i64 ((R : Nat) : Int), .int .i64 ch, .slice rA rL.length rc] 30, ownB 3 1 kA KL.length kc (KL.flatMap eI), ownB 3 1 fA FL.length fc (FL.flatMap eI)]) (fun q => KL.length - q.1) (0, false) ⟨Nat.zero_le _, rfl⟩ ?_
     rintro ⟨k, rb⟩ ⟨hk, hb⟩
     dsimp only at hk hb ⊢
     refine s7 ?_
     refine JL_dec (fun h74 => ?_) (fun h74 => ?_)
     ·refine s9 ?_
      have hkK : k < KL.length := by omega
      obtain ⟨j, hjk, hjl⟩ : ∃ j : Nat, KL[k]'hkK = (j : Nat) ∧ j < l.length := by
       subst hKL
       exact wh_in hkK
      refine J_fact (fun hw => ?_)
      obtain ⟨gk, rfl⟩ := own_some hw (ty := 3) (k := 1) (A := kA) (m := KL.length) (c := kc) (xs := KL.flatMap eI) (by repeat constructor) (by omega)
      clear hw
      have hlty : j < l.length := by omega
      obtain ⟨bby, qy, rfl, hh⟩ := hA (by intro e; subst e; simp at hlty)
      obtain ⟨⟨yt, yn, yx, yy⟩, hy⟩ : ∃ y, l[j]'hlty = y := ⟨_, rfl⟩
      have hmy : (⟨yt, yn, yx, yy⟩ : St) ∈ l := by rw [← hy]; exact List.getElem_mem _
      refine kJ [(1, _), (2, _), (4, _), (7, _), (9, _), (11, _), (12, _), (14, _), (15, _), (16, _)] ?_
      refine s4 ?_
      refine aV (vOwn EI (v := .int .i64 ((j : Nat) : Int)) rfl rfl (by repeat constructor) hkK (by omega) (by rw [hjk]; rfl)) ?_
      refine s1 ?_
      refine aDecF ?_ (by omega)
      refine s4 ?_
      refine aV (vOwn EI (v := .int .i64 ((j : Nat) : Int)) rfl rfl (by repeat constructor) hkK (by omega) (by rw [hjk]; rfl)) ?_
      refine s3 ?_
      refine aDecF ?_ (by omega)
      refine s7 ?_
      by_cases hf : fidx (isB yt yn) m < 0
      ·have hfr : findR yt yn m = .tuple #[.int .i64 0, .int .i64 7] := if_pos hf
       refine kJ [(1, _), (2, _), (4, _), (7, _), (9, _), (11, _), (12, _), (14, _), (15, _), (16, _)] ?_
       refine xD [0, 1, 2, 3, 4, 5, 6, 7, 8, 9, 10, 11, 12, 13, 14, 15, 16, 17, 18, 19, 20, 21, 22, 23] [1, 6, 9, 14, 17] ?_
       refine s6 ?_
       refine dL rfl (vOwn EI (v := .int .i64 ((j : Nat) : Int)) rfl rfl (by repeat constructor) hkK (by omega) (by rw [hjk]; rfl)) ?_
       refine dP rfl (pIdxI (j) rfl rfl rfl) ?_
       refine s1 ?_
       refine dL rfl (vHold (v := .int .i64 yt) rfl rfl (fun h => h) hh hlty (by omega) (by rw [hy]; rfl)) ?_
       refine s4 ?_
       refine dL rfl (vOwn EI (v := .int .i64 ((j : Nat) : Int)) rfl rfl (by repeat constructor) hkK (by omega) (by rw [hjk]; rfl)) ?_
       refine dP rfl (pIdxI (j) rfl rfl rfl) ?_
       refine s1 ?_
       refine dL rfl (vHold (v := .int .i64 yn) rfl rfl (fun h => h) hh hlty (by omega) (by rw [hy]; rfl)) ?_
       refine dCB rfl (fun w hw => (refFind yt yn m _ w (hrow20.up ET hw.bel)).mono (fun _ _ h => by rw [hfr] at h; exact h)) ?_
       refine s7 ?_
       cases hrb : rb
       ·refine kJ [(1, _), (2, _), (4, _), (7, _), (9, _), (11, _), (12, _), (14, _), (15, _), (16, _), (18, _)] ?_
        refine s5 ?_
        refine aDecT ?_ (by decide)
        refine s5 ?_
        refine kJ [(1, _), (2, _), (4, _), (7, _), (9, _), (11, _), (12, _), (14, _), (15, _), (16, _)] ?_
        refine s5 ?_
        have hs := tk_any (rmQ m) hkK hjk hjl hy hb
        exact xR (k + 1, true) ⟨by dsimp only; omega, by dsimp only; rw [hs, hrb]; unfold rmQ; rw [decide_eq_true hf]; rfl⟩ (by dsimp only; omega) (hl := ⟨rfl, rfl, rfl, rfl, rfl, rfl, rfl, rfl, rfl, (congrArg some (by go_num)), trivial⟩)
       ·refine kJ [(1, _), (2, _), (4, _), (7, _), (9, _), (11, _), (12, _), (14, _), (15, _), (16, _), (18, _)] ?_
        refine s10 ?_
        refine kJ [(1, _), (2, _), (4, _), (7, _), (9, _), (11, _), (12, _), (14, _), (15, _), (16, _)] ?_
        refine s5 ?_
        have hs := tk_any (rmQ m) hkK hjk hjl hy hb
        exact xR (k + 1, true) ⟨by dsimp only; omega, by dsimp only; rw [hs, hrb]; unfold rmQ; rw [decide_eq_true hf]; rfl⟩ (by dsimp only; omega) (hl := ⟨rfl, rfl, rfl, rfl, rfl, rfl, rfl, rfl, rfl, (congrArg some (by go_num)), trivial⟩)
      ·have hfr : findR yt yn m = .tuple #[.int .i64 (fidx (isB yt yn) m), .int .i64 0] := if_neg hf
       obtain ⟨kz, hzm, hfz, -, -⟩ := fidx_in (p := isB yt yn) (l := m) (by omega)
       rw [hfz] at hfr
       refine kJ [(1, _), (2, _), (4, _), (7, _), (9, _), (11, _), (12, _), (14, _), (15, _), (16, _)] ?_
       refine xD [0, 1, 2, 3, 4, 5, 6, 7, 8, 9, 10, 11, 12, 13, 14, 15, 16, 17, 18, 19, 20, 21, 22, 23] [1, 6, 9, 14, 17] ?_
       refine s6 ?_
       refine dL rfl (vOwn EI (v := .int .i64 ((j : Nat) : Int)) rfl rfl (by repeat constructor) hkK (by omega) (by rw [hjk]; rfl)) ?_
       refine dP rfl (pIdxI (j) rfl rfl rfl) ?_
       refine s1 ?_
       refine dL rfl (vHold (v := .int .i64 yt) rfl rfl (fun h => h) hh hlty (by omega) (by rw [hy]; rfl)) ?_
       refine s4 ?_
       refine dL rfl (vOwn EI (v := .int .i64 ((j : Nat) : Int)) rfl rfl (by repeat constructor) hkK (by omega) (by rw [hjk]; rfl)) ?_
       refine dP rfl (pIdxI (j) rfl rfl rfl) ?_
       refine s1 ?_
       refine dL rfl (vHold (v := .int .i64 yn) rfl rfl (fun h => h) hh hlty (by omega) (by rw [hy]; rfl)) ?_
       refine dCB rfl (fun w hw => (refFind yt yn m _ w (hrow20.up ET hw.bel)).mono (fun _ _ h => by rw [hfr] at h; exact h)) ?_
       refine s7 ?_
       cases hrb : rb
       ·refine kJ [(1, _), (2, _), (4, _), (7, _), (9, _), (11, _), (12, _), (14, _), (15, _), (16, _), (18, _)] ?_
        refine s5 ?_
        refine aDecF ?_ (by decide)
        refine s5 ?_
        refine kJ [(1, _), (2, _), (4, _), (7, _), (9, _), (11, _), (12, _), (14, _), (15, _), (16, _)] ?_
        refine s5 ?_
        have hs := tk_any (rmQ m) hkK hjk hjl hy hb
        exact xR (k + 1, false) ⟨by dsimp only; omega, by dsimp only; rw [hs, hrb]; unfold rmQ; rw [decide_eq_false hf]; rfl⟩ (by dsimp only; omega) (hl := ⟨rfl, rfl, rfl, rfl, rfl, rfl, rfl, rfl, rfl, (congrArg some (by go_num)), trivial⟩)
       ·refine kJ [(1, _), (2, _), (4, _), (7, _), (9, _), (11, _), (12, _), (14, _), (15, _), (16, _), (18, _)] ?_
        refine s10 ?_
        refine kJ [(1, _), (2, _), (4, _), (7, _), (9, _), (11, _), (12, _), (14, _), (15, _), (16, _)] ?_
        refine s5 ?_
        have hs := tk_any (rmQ m) hkK hjk hjl hy hb
        exact xR (k + 1, true) ⟨by dsimp only; omega, by dsimp only; rw [hs, hrb]; unfold rmQ; rw [decide_eq_false hf]; rfl⟩ (by dsimp only; omega) (hl := ⟨rfl, rfl, rfl, rfl, rfl, rfl, rfl, rfl, rfl, (congrArg some (by go_num)), trivial⟩)
     ·refine s10 ?_
      obtain rfl : k = KL.length := by omega
      rw [List.take_length] at hb
      have hrm : rb = remB (⟨kf, kt, ks, ke, kp⟩ : Cd) n xteam m l := by rw [hb, hKL]; exact rem_q hdm
      obtain ⟨rm, hrme⟩ : ∃ rm, rm = rb := ⟨_, rfl⟩
      rw [← hrme] at hrm ⊢
      refine kJ [(1, _), (2, _), (4, _), (7, _), (9, _), (12, _), (14, _), (15, _)] ?_
      refine s5 ?_
      refine xL (T := Nat × Bool) (fun q => q.1 ≤ FL.length ∧ q.2 = (FL.take q.1).any (fun i => mvQ m (l.getD i.toNat ⟨0, 0, 0, 0⟩))) (fun q => [(1, .int .i64 n), (2, .slice A l.length cap), (4, .pointer (some ⟨b4, 0, none⟩)), (7, .pointer (some ⟨b7, 0, none⟩)), (9, .pointer (some ⟨b9, 0, none⟩)), (12, .slice fA FL.length fc), (14, .bool rm), (15, .bool q.2), (19, .int .i64 (q.1 : Nat))]) (fun q => [cellB b4 [.int .i64 kf, .int .i64 kt, .int .i64 ks, .int .i64 ke, .bool kp] 23, cellB b7 [.int .i64 xteam, .int .i64 xnn, .bool xlate, .bool xshort, .int .i64 xhow, .slice A2 m.length cap2] 26, cellB b9 [.int .i64 ((R : Nat) : Int), .int .i64 ch, .slice rA rL.length rc] 30, ownB 3 1 fA FL.length fc (FL.flatMap eI)]) (fun q => FL.length - q.1) (0, false) ⟨Nat.zero_le _, rfl⟩ ?_
      rintro ⟨k, rb⟩ ⟨hk, hb⟩
      dsimp only at hk hb ⊢
      refine s7 ?_
      refine JL_dec (fun h121 => ?_) (fun h121 => ?_)
      ·refine s9 ?_
       have hkK : k < FL.length := by omega
       obtain ⟨j, hjk, hjl⟩ : ∃ j : Nat, FL[k]'hkK = (j : Nat) ∧ j < l.length := by
        subst hFL
        exact wh_in hkK
       refine J_fact (fun hw => ?_)
       obtain ⟨gf, rfl⟩ := own_some hw (ty := 3) (k := 1) (A := fA) (m := FL.length) (c := fc) (xs := FL.flatMap eI) (by repeat constructor) (by omega)
       clear hw
       have hlty : j < l.length := by omega
       obtain ⟨bby, qy, rfl, hh⟩ := hA (by intro e; subst e; simp at hlty)
       obtain ⟨⟨yt, yn, yx, yy⟩, hy⟩ : ∃ y, l[j]'hlty = y := ⟨_, rfl⟩
       have hmy : (⟨yt, yn, yx, yy⟩ : St) ∈ l := by rw [← hy]; exact List.getElem_mem _
       refine kJ [(1, _), (2, _), (4, _), (7, _), (9, _), (12, _), (14, _), (15, _), (19, _)] ?_
       refine s4 ?_
       refine aV (vOwn EI (v := .int .i64 ((j : Nat) : Int)) rfl rfl (by repeat constructor) hkK (by omega) (by rw [hjk]; rfl)) ?_
       refine s1 ?_
       refine aDecF ?_ (by omega)
       refine s4 ?_
       refine aV (vOwn EI (v := .int .i64 ((j : Nat) : Int)) rfl rfl (by repeat constructor) hkK (by omega) (by rw [hjk]; rfl)) ?_
       refine s3 ?_
       refine aDecF ?_ (by omega)
       refine s7 ?_
       by_cases hf : fidx (isB yt yn) m < 0
       ·have hfr : findR yt yn m = .tuple #[.int .i64 0, .int .i64 7] := if_pos hf
        refine kJ [(1, _), (2, _), (4, _), (7, _), (9, _), (12, _), (14, _), (15, _), (19, _)] ?_
        refine xD [0, 1, 2, 3, 4, 5, 6, 7, 8, 9, 10, 11, 12, 13, 14, 15, 16, 17, 18, 19, 20, 21, 22, 23] [1, 6, 9, 14, 17] ?_
        refine s6 ?_
        refine dL rfl (vOwn EI (v := .int .i64 ((j : Nat) : Int)) rfl rfl (by repeat constructor) hkK (by omega) (by rw [hjk]; rfl)) ?_
        refine dP rfl (pIdxI (j) rfl rfl rfl) ?_
        refine s1 ?_
        refine dL rfl (vHold (v := .int .i64 yt) rfl rfl (fun h => h) hh hlty (by omega) (by rw [hy]; rfl)) ?_
        refine s4 ?_
        refine dL rfl (vOwn EI (v := .int .i64 ((j : Nat) : Int)) rfl rfl (by repeat constructor) hkK (by omega) (by rw [hjk]; rfl)) ?_
        refine dP rfl (pIdxI (j) rfl rfl rfl) ?_
        refine s1 ?_
        refine dL rfl (vHold (v := .int .i64 yn) rfl rfl (fun h => h) hh hlty (by omega) (by rw [hy]; rfl)) ?_
        refine dCB rfl (fun w hw => (refFind yt yn m _ w (hrow20.up ET hw.bel)).mono (fun _ _ h => by rw [hfr] at h; exact h)) ?_
        refine s8 ?_
        refine kJ [(1, _), (2, _), (4, _), (7, _), (9, _), (12, _), (14, _), (15, _), (19, _), (20, _), (21, _)] ?_
        refine s3 ?_
        refine aDecF ?_ (by decide)
        refine s6 ?_
        refine kJ [(1, _), (2, _), (4, _), (7, _), (9, _), (12, _), (14, _), (15, _), (19, _)] ?_
        refine s5 ?_
        have hs := tk_any (mvQ m) hkK hjk hjl hy hb
        exact xR (k + 1, rb) ⟨by dsimp only; omega, by dsimp only; rw [hs, mv_none hf, Bool.or_false]⟩ (by dsimp only; omega) (hl := ⟨rfl, rfl, rfl, rfl, rfl, rfl, rfl, rfl, (congrArg some (by go_num)), trivial⟩)
       ·have hfr : findR yt yn m = .tuple #[.int .i64 (fidx (isB yt yn) m), .int .i64 0] := if_neg hf
        obtain ⟨kz, hzm, hfz, -, -⟩ := fidx_in (p := isB yt yn) (l := m) (by omega)
        rw [hfz] at hfr
        refine kJ [(1, _), (2, _), (4, _), (7, _), (9, _), (12, _), (14, _), (15, _), (19, _)] ?_
        refine xD [0, 1, 2, 3, 4, 5, 6, 7, 8, 9, 10, 11, 12, 13, 14, 15, 16, 17, 18, 19, 20, 21, 22, 23] [1, 6, 9, 14, 17] ?_
        refine s6 ?_
        refine dL rfl (vOwn EI (v := .int .i64 ((j : Nat) : Int)) rfl rfl (by repeat constructor) hkK (by omega) (by rw [hjk]; rfl)) ?_
        refine dP rfl (pIdxI (j) rfl rfl rfl) ?_
        refine s1 ?_
        refine dL rfl (vHold (v := .int .i64 yt) rfl rfl (fun h => h) hh hlty (by omega) (by rw [hy]; rfl)) ?_
        refine s4 ?_
        refine dL rfl (vOwn EI (v := .int .i64 ((j : Nat) : Int)) rfl rfl (by repeat constructor) hkK (by omega) (by rw [hjk]; rfl)) ?_
        refine dP rfl (pIdxI (j) rfl rfl rfl) ?_
        refine s1 ?_
        refine dL rfl (vHold (v := .int .i64 yn) rfl rfl (fun h => h) hh hlty (by omega) (by rw [hy]; rfl)) ?_
        refine dCB rfl (fun w hw => (refFind yt yn m _ w (hrow20.up ET hw.bel)).mono (fun _ _ h => by rw [hfr] at h; exact h)) ?_
        refine s8 ?_
        refine kJ [(1, _), (2, _), (4, _), (7, _), (9, _), (12, _), (14, _), (15, _), (19, _), (20, _), (21, _)] ?_
        refine s3 ?_
        refine aDecT ?_ rfl
        refine s4 ?_
        obtain ⟨⟨zt, zn, zx, zy⟩, hz⟩ : ∃ y, m[kz]'hzm = y := ⟨_, rfl⟩
        obtain ⟨bz, qz, rfl, hz2⟩ := hA2 (by intro e; subst e; simp at hzm)
        have hltz : kz < m.length := hzm
        obtain ⟨ec, hec⟩ := on_cen ⟨zt, zn, zx, zy⟩
        dsimp only at hec
        refine s4 ?_
        refine aP (pIdxI (kz) rfl rfl rfl) ?_
        refine s1 ?_
        refine aV (vHoldP (i := 2) (m := 2) (cs := [.int .i64 zx, .int .i64 zy]) rfl rfl (fun h => h) hz2 hltz rfl (by omega) (by rw [hz]; rfl)) ?_
        refine aCB (fun w hw => (refOnCentre zx zy w).mono (fun _ _ h => by rw [show onR zx zy = _ from hec] at h; exact h)) ?_
        refine s7 ?_
        cases hrb : rb
        ·refine kJ [(1, _), (2, _), (4, _), (7, _), (9, _), (12, _), (14, _), (15, _), (19, _), (22, _)] ?_
         refine s10 ?_
         refine kJ [(1, _), (2, _), (4, _), (7, _), (9, _), (12, _), (14, _), (15, _), (19, _)] ?_
         refine s5 ?_
         have hs := tk_any (mvQ m) hkK hjk hjl hy hb
         exact xR (k + 1, !cen ⟨zt, zn, zx, zy⟩) ⟨by dsimp only; omega, by dsimp only; rw [hs, hrb, mv_some hfz hzm hz]; rfl⟩ (by dsimp only; omega) (hl := ⟨rfl, rfl, rfl, rfl, rfl, rfl, rfl, rfl, (congrArg some (by go_num)), trivial⟩)
        ·refine kJ [(1, _), (2, _), (4, _), (7, _), (9, _), (12, _), (14, _), (15, _), (19, _), (22, _)] ?_
         refine s10 ?_
         refine kJ [(1, _), (2, _), (4, _), (7, _), (9, _), (12, _), (14, _), (15, _), (19, _)] ?_
         refine s5 ?_
         have hs := tk_any (mvQ m) hkK hjk hjl hy hb
         exact xR (k + 1, true) ⟨by dsimp only; omega, by dsimp only; rw [hs, hrb, mv_some hfz hzm hz]; rfl⟩ (by dsimp only; omega) (hl := ⟨rfl, rfl, rfl, rfl, rfl, rfl, rfl, rfl, (congrArg some (by go_num)), trivial⟩)
      ·refine s9 ?_
       obtain rfl : k = FL.length := by omega
       rw [List.take_length] at hb
       have hmv : rb = movB (⟨kf, kt, ks, ke, kp⟩ : Cd) n xteam m l := by rw [hb, hFL]; exact mov_q hdm
       obtain ⟨mv, hmve⟩ : ∃ mv, mv = rb := ⟨_, rfl⟩
       rw [← hmve] at hmv ⊢
       refine kJ [(1, _), (4, _), (7, _), (9, _), (14, _), (15, _)] ?_
       refine s19 ?_
       refine aW (ow_sliceC (vs := [_, _, _, _, _, _, _, _]) (ty := 4) rfl rfl (by rfl) rfl rfl (fun _ => by kernel_rfl)) (fun b195 hb195 => ?_)
       refine s4 ?_
       refine kJ [(1, _), (4, _), (9, _), (24, _)] ?_
       refine s6 ?_
       refine J_own0 9 1 ?_
       refine s5 ?_
       refine xL (T := Nat × Option Addr × Nat) (fun q => q.1 ≤ 8) (fun q => [(1, .int .i64 n), (4, .pointer (some ⟨b4, 0, none⟩)), (9, .pointer (some ⟨b9, 0, none⟩)), (24, .slice (some ⟨b195, 0, none⟩) 8 8), (25, .slice q.2.1 (facT [xlate, decide (xhow = 1), xshort, decide (xhow = 3), decide (xhow = 2), decide (xhow = 4), rm, mv] q.1).length q.2.2), (26, .int .i64 (q.1 : Nat))]) (fun q => [cellB b4 [.int .i64 kf, .int .i64 kt, .int .i64 ks, .int .i64 ke, .bool kp] 23, cellB b9 [.int .i64 ((R : Nat) : Int), .int .i64 ch, .slice rA rL.length rc] 30, cellB b195 [.bool xlate, .bool (decide (xhow = 1)), .bool xshort, .bool (decide (xhow = 3)), .bool (decide (xhow = 2)), .bool (decide (xhow = 4)), .bool rm, .bool mv] 4, ownB 9 1 q.2.1 (facT [xlate, decide (xhow = 1), xshort, decide (xhow = 3), decide (xhow = 2), decide (xhow = 4), rm, mv] q.1).length q.2.2 ((facT [xlate, decide (xhow = 1), xshort, decide (xhow = 3), decide (xhow = 2), decide (xhow = 4), rm, mv] q.1).flatMap eS)]) (fun q => 8 - q.1) (0, none, 0) (Nat.zero_le _) ?_ (hH := by (try dsimp only); rw [show facT [xlate, decide (xhow = 1), xshort, decide (xhow = 3), decide (xhow = 2), decide (xhow = 4), rm, mv] 0 = [] from rfl]; repeat constructor)
       rintro ⟨k, gA, gc⟩ hk
       dsimp only at hk ⊢
       have hfl := facT_len [xlate, decide (xhow = 1), xshort, decide (xhow = 3), decide (xhow = 2), decide (xhow = 4), rm, mv] k
       refine s7 ?_
       refine JL_dec (fun h199 => ?_) (fun h199 => ?_)
       ·refine s8 ?_
        have hzb := bit_get (b0 := xlate) (b1 := decide (xhow = 1)) (b2 := xshort) (b3 := decide (xhow = 3)) (b4 := decide (xhow = 2)) (b5 := decide (xhow = 4)) (b6 := rm) (b7 := mv) (show k < 8 by omega)
        refine kJ [(1, _), (4, _), (9, _), (24, _), (25, _), (26, _)] ?_
        refine s4 ?_
        refine aV (vCell rfl rfl (by repeat constructor) hzb) ?_
        refine JL_bool (fun h205 => ?_) (fun h205 => ?_)
        ·refine s3 ?_
         obtain ⟨x, hz, hxk, hxo⟩ := nm_get (show k < 8 by omega)
         refine kJ [(1, _), (4, _), (9, _), (24, _), (25, _), (26, _)] ?_
         refine s2 ?_
         refine aW (oR (fun w hw => names_any w)) (fun b207 _ => ?_)
         refine s2 ?_
         refine aV (vCell rfl rfl (by repeat constructor) hz) ?_
         refine aW (ow_sliceC (vs := [_]) (ty := 9) rfl rfl (by rfl) rfl rfl (fun _ => by kernel_rfl)) (fun b211 hb211 => ?_)
         refine aS (oApp (sl := 47) ES x) (fun A212 c212 => ?_)
         refine s4 ?_
         refine kJ [(1, _), (4, _), (9, _), (24, _), (25, _), (26, _)] ?_
         refine s5 ?_
         have hs : facT [xlate, decide (xhow = 1), xshort, decide (xhow = 3), decide (xhow = 2), decide (xhow = 4), rm, mv] (k + 1) = facT [xlate, decide (xhow = 1), xshort, decide (xhow = 3), decide (xhow = 2), decide (xhow = 4), rm, mv] k ++ [x] := by
          show facT _ k ++ cond _ _ _ = _
          rw [h205]
          show facT _ k ++ [nmL.getD k lnS] = _
          rw [show nmL.getD k lnS = x by simp [List.getD, hxk]]
         exact xR (k + 1, A212, c212) (by dsimp only; omega) (by dsimp only; omega) (hl := ⟨rfl, rfl, rfl, rfl, (by dsimp only; rw [hs]; rfl), (congrArg some (by go_num)), trivial⟩) (hH := by (try dsimp only); rw [hs]; repeat constructor)
        ·refine s6 ?_
         refine kJ [(1, _), (4, _), (9, _), (24, _), (25, _), (26, _)] ?_
         refine s5 ?_
         have hs : facT [xlate, decide (xhow = 1), xshort, decide (xhow = 3), decide (xhow = 2), decide (xhow = 4), rm, mv] (k + 1) = facT [xlate, decide (xhow = 1), xshort, decide (xhow = 3), decide (xhow = 2), decide (xhow = 4), rm, mv] k := by
          show facT _ k ++ cond _ _ _ = _
          rw [h205]
          show facT _ k ++ [] = _
          rw [List.append_nil]
         exact xR (k + 1, gA, gc) (by dsimp only; omega) (by dsimp only; omega) (hl := ⟨rfl, rfl, rfl, rfl, (by dsimp only; rw [hs]; rfl), (congrArg some (by go_num)), trivial⟩) (hH := by (try dsimp only); rw [hs]; repeat constructor)
       ·refine s8 ?_
        obtain rfl : k = 8 := by omega
        obtain ⟨F, hF⟩ : ∃ F, F = facF xlate (decide (xhow = 1)) xshort (decide (xhow = 3)) (decide (xhow = 2)) (decide (xhow = 4)) rm mv (decide (n < ks)) := ⟨_, rfl⟩
        refine xC (T := Option Addr × Nat) (fun q => True) (fun q => [(9, .pointer (some ⟨b9, 0, none⟩)), (25, .slice q.1 F.length q.2)]) (fun q => [cellB b9 [.int .i64 ((R : Nat) : Int), .int .i64 ch, .slice rA rL.length rc] 30, ownB 9 1 q.1 F.length q.2 (F.flatMap eS)]) ?_ ?_
        ·refine s1 ?_
         refine kJ [(1, _), (4, _), (9, _), (25, _)] ?_
         refine s5 ?_
         refine JL_dec (fun h216 => ?_) (fun h216 => ?_)
         ·refine s3 ?_
          refine kJ [(9, _), (25, _)] ?_
          refine s2 ?_
          refine aW (ow_sliceC (vs := [_]) (ty := 9) rfl rfl (by rfl) rfl rfl (fun _ => by kernel_rfl)) (fun b218 hb218 => ?_)
          refine aS (oApp (sl := 47) ES sfS) (fun A219 c219 => ?_)
          refine s2 ?_
          have hFe : F = facT [xlate, decide (xhow = 1), xshort, decide (xhow = 3), decide (xhow = 2), decide (xhow = 4), rm, mv] 8 ++ [sfS] := by rw [hF, ← facT_all, decide_eq_true h216]; rfl
          subst hFe
          exact xE (A219, c219) trivial
         ·refine s4 ?_
          have hFe : F = facT [xlate, decide (xhow = 1), xshort, decide (xhow = 3), decide (xhow = 2), decide (xhow = 4), rm, mv] 8 := by rw [hF, ← facT_all, decide_eq_false h216]; exact List.append_nil _
          subst hFe
          exact xE (gA, gc) trivial
        ·rintro ⟨fA1, fc1⟩ -
         dsimp only
         have hRN : R = rulN xlate (decide (xhow = 1)) xshort (decide (xhow = 3)) (decide (xhow = 2)) (decide (xhow = 4)) rm mv (decide (n < ks)) := by
          have h3 : ruleF (⟨kf, kt, ks, ke, kp⟩ : Cd) n l m (⟨xteam, xnn, xlate, xshort, xhow⟩ : Th) = rulF (⟨xteam, xnn, xlate, xshort, xhow⟩ : Th) rm mv (decide (n < ks)) := by rw [hrm, hmv]; rfl
          have h4 := rul_n9 (⟨xteam, xnn, xlate, xshort, xhow⟩ : Th) rm mv (decide (n < ks))
          exact Int.ofNat.inj (hR.symm.trans (h3.trans h4))
         have hlaw := fun (L : List Cl) (h : L.map clP = bkA) => bk_law h xlate (decide (xhow = 1)) xshort (decide (xhow = 3)) (decide (xhow = 2)) (decide (xhow = 4)) rm mv (decide (n < ks))
         rw [← hRN, ← hF] at hlaw
         have hok : ∀ s ∈ F, okS s := by rw [hF]; exact facF_ok _ _ _ _ _ _ _ _ _
         have hFl : F.length ≤ 9 := by rw [hF, ← facT_all, List.length_append]; have := facT_len [xlate, decide (xhow = 1), xshort, decide (xhow = 3), decide (xhow = 2), decide (xhow = 4), rm, mv] 8; cases decide (n < ks) <;> simp <;> omega
         have hR10 : R < 10 := by rw [hRN]; exact rulN_lt _ _ _ _ _ _ _ _ _
         refine s2 ?_
         refine aW (oR (fun w hw => book_any w)) (fun t221 ht221 => ?_)
         dsimp only [bkI, List.cons_append, List.nil_append]
         refine s1 ?_
         refine aW (oR (fun w hw => bk_holds ht221 hok (fun A hA => ((hw.pick (show Pk (bkI t221) _ by repeat constructor)).ok A hA).1) (own_arr (A := fA1) (c := fc1) (ty := 9) (L := F) ES hw (by repeat constructor) (by omega)) (hlaw _ ht221.1).1)) (fun t223 ht223 => ?_)
         obtain ⟨hL, hA1, hc1⟩ := t223
         dsimp only [List.cons_append, List.nil_append] at ht223 ⊢
         obtain ⟨-, hSm, -⟩ := ht223
         refine JL_fact (fun hw => ?_)
         have hHl := (own_cn hw (ty := 9) (k := 1) (A := hA1) (m := hL.length) (c := hc1) (xs := hL.flatMap eS) (by repeat constructor)).1
         unfold maxLen at hHl
         clear hw
         refine s9 ?_
         refine kJ [(9, _), (25, _), (27, _), (28, _)] ?_
         refine s3 ?_
         refine aDecF ?_ (by decide)
         refine s12 ?_
         refine xL (T := Nat) (fun k => k ≤ 10) (fun k => [(9, .pointer (some ⟨b9, 0, none⟩)), (25, .slice fA1 F.length fc1), (27, .slice hA1 hL.length hc1), (29, .int .i64 (k : Nat))]) (fun k => [cellB b9 [.int .i64 ((R : Nat) : Int), .int .i64 ch, .slice rA rL.length rc] 30, ownB 9 1 fA1 F.length fc1 (F.flatMap eS), ownB 9 1 hA1 hL.length hc1 (hL.flatMap eS)]) (fun k => 10 - k) 0 (Nat.zero_le _) ?_
         rintro k hk
         refine s5 ?_
         refine JL_dec (fun h229 => ?_) (fun h229 => ?_)
         ·refine s10 ?_
          refine aCB (fun w hw => Number_any k (by omega) w) ?_
          refine aP (pCatS rfl rfl rfl (by show 5 + 1 ≤ _; omega)) ?_
          refine s5 ?_
          refine kJ [(9, _), (25, _), (27, _), (29, _), (30, _)] ?_
          refine xD [0, 1, 3, 4, 5, 6, 2, 7] [4] ?_
          refine s6 ?_
          refine dCB rfl (fun w hw => Has22 hL (ruS k) _ w (own_arr (A := hA1) (c := hc1) (ty := 9) (L := hL) ES hw (by repeat constructor) (by omega))) ?_
          refine dP rfl (pNeqB rfl rfl rfl) ?_
          refine dBoolF ?_ (has_eq hSm (hlaw _ ht221.1).2.1 (by omega))
          refine s7 ?_
          refine kJ [(9, _), (25, _), (27, _), (29, _), (30, _)] ?_
          refine s5 ?_
          refine JL_dec (fun h246 => ?_) (fun h246 => ?_)
          ·refine s7 ?_
           refine kJ [(9, _), (25, _), (27, _), (29, _)] ?_
           refine s5 ?_
           exact xR (k + 1) (by omega) (by omega) (hl := ⟨rfl, rfl, rfl, (congrArg some (by go_num)), trivial⟩)
          ·refine s6 ?_
           have hkR : k = R := by omega
           refine kJ [(9, _), (25, _), (27, _), (29, _), (30, _)] ?_
           refine s1 ?_
           refine aW (oR (fun w hw => book_any w)) (fun t248 ht248 => ?_)
           dsimp only [bkI, List.cons_append, List.nil_append]
           refine s2 ?_
           refine aW (oR (fun w hw => bk_why ht248 hok (fun A hA => ((hw.pick (show Pk (bkI t248) _ by repeat constructor)).ok A hA).1) (own_arr (A := fA1) (c := fc1) (ty := 9) (L := F) ES hw (by repeat constructor) (by omega)) hkR (hlaw _ ht248.1).2.2.1 (hlaw _ ht248.1).2.2.2.1)) (fun t251 _ => ?_)
           obtain ⟨wA, wc⟩ := t251
           dsimp only [List.cons_append, List.nil_append]
           refine s8 ?_
           refine kJ [(9, _), (25, _), (27, _), (29, _), (30, _), (31, _), (32, _)] ?_
           refine s1 ?_
           refine aW (oR (fun w hw => book_any w)) (fun t255 ht255 => ?_)
           dsimp only [bkI, List.cons_append, List.nil_append]
           refine s3 ?_
           refine aCB (fun w hw => bk_proves ht255 hok (fun A hA => ((hw.pick (show Pk (bkI t255) _ by repeat constructor)).ok A hA).1) (own_arr (A := fA1) (c := fc1) (ty := 9) (L := F) ES hw (by repeat constructor) (by omega)) hkR (own_arr (A := wA) (c := wc) (ty := 3) (L := stpL R) EI hw (by repeat constructor) (show 1 ≤ _ by decide)) (hlaw _ ht255.1).2.2.2.2) ?_
           refine s10 ?_
           refine kJ [(9, _), (25, _), (27, _), (29, _), (31, _), (32, _), (33, _), (35, _)] ?_
           refine s3 ?_
           refine aDecF ?_ (by decide)
           refine s3 ?_
           refine aDecF ?_ (by decide)
           refine s9 ?_
           refine aDecF ?_ (by decide)
           refine s7 ?_
           refine kJ [(9, _), (25, _), (27, _), (29, _)] ?_
           refine s5 ?_
           exact xR (k + 1) (by omega) (by omega) (hl := ⟨rfl, rfl, rfl, (congrArg some (by go_num)), trivial⟩)
         ·refine s9 ?_
          refine kJ [] ?_
          refine s1 ?_
          refine aCB (fun w hw => awake_any w) ?_
          refine s4 ?_
          refine JR_one rfl (rr_tmp rfl) ?_
          intro w' hw
          exact ⟨rfl, hw.bel⟩
    ·refine kJ [(1, _), (2, _), (4, _), (7, _), (9, _), (10, _)] ?_
     refine s6 ?_
     refine aCB (fun w hw => (Protected_any (⟨kf, kt, ks, ke, kp⟩ : Cd) n xteam l _ w (hrow0.up ET hw.bel)).mono (fun _ _ h => by unfold RetPr at h; rw [if_neg hp] at h; exact h)) ?_
     refine s11 ?_
     refine kJ [(1, _), (2, _), (4, _), (7, _), (9, _), (10, _), (11, _), (12, _), (13, _)] ?_
     refine s3 ?_
     refine aDecF ?_ (by decide)
     refine s3 ?_
     refine aDecT ?_ (by exact hp)
     refine s5 ?_
     refine kJ [] ?_
     refine s1 ?_
     refine aCB (fun w hw => awake_any w) ?_
     refine s5 ?_
     refine JR_one rfl (rr_tmp rfl) ?_
     intro w' hw
     exact ⟨rfl, hw.bel⟩
   ·refine kJ [(1, _), (2, _), (4, _), (7, _)] ?_
    refine s5 ?_
    refine aCB (fun w hw => (Judge_any (⟨kf, kt, ks, ke, kp⟩ : Cd) n l m (⟨xteam, xnn, xlate, xshort, xhow⟩ : Th) _ A2 cap2 w (hrow0.up ET hw.bel) (hrow20.up ET hw.bel)).mono (fun _ _ h => by unfold RetJu at h; rw [if_neg hj] at h; exact h)) ?_
    refine s3 ?_
    refine aW oA (fun b9 hb9 => ?_)
    refine s5 ?_
    by_cases hp : proE (⟨kf, kt, ks, ke, kp⟩ : Cd) n xteam l = 0
    ·refine kJ [(1, _), (2, _), (4, _), (7, _), (9, _), (10, _)] ?_
     refine s6 ?_
     refine aW (oR (fun w hw => (Protected_any (⟨kf, kt, ks, ke, kp⟩ : Cd) n xteam l _ w (hrow0.up ET hw.bel)).mono (fun _ _ h => by unfold RetPr at h; rw [if_pos hp] at h; exact h))) (fun t60 ht60 => ?_)
     obtain ⟨kA, kc, fA, fc⟩ := t60
     dsimp only [List.cons_append, List.nil_append]
     obtain ⟨KL, hKL⟩ : ∃ KL, KL = whN (kpB (⟨kf, kt, ks, ke, kp⟩ : Cd) n xteam) l l.length := ⟨_, rfl⟩
     obtain ⟨FL, hFL⟩ : ∃ FL, FL = whN (fxB (⟨kf, kt, ks, ke, kp⟩ : Cd) n xteam) l l.length := ⟨_, rfl⟩
     rw [← hKL, ← hFL]
     have hKl : KL.length ≤ l.length := by rw [hKL]; exact whN_len _ _ _
     have hFl0 : FL.length ≤ l.length := by rw [hFL]; exact whN_len _ _ _
     refine s11 ?_
     refine kJ [(1, _), (2, _), (4, _), (7, _), (9, _), (10, _), (11, _), (12, _), (13, _)] ?_
     refine s3 ?_
     refine aDecT ?_ (by exact hj)
     refine s8 ?_
     refine kJ [] ?_
     refine s1 ?_
     refine aCB (fun w hw => awake_any w) ?_
     refine s5 ?_
     refine JR_one rfl (rr_tmp rfl) ?_
     intro w' hw
     exact ⟨rfl, hw.bel⟩
    ·refine kJ [(1, _), (2, _), (4, _), (7, _), (9, _), (10, _)] ?_
     refine s6 ?_
     refine aCB (fun w hw => (Protected_any (⟨kf, kt, ks, ke, kp⟩ : Cd) n xteam l _ w (hrow0.up ET hw.bel)).mono (fun _ _ h => by unfold RetPr at h; rw [if_neg hp] at h; exact h)) ?_
     refine s11 ?_
     refine kJ [(1, _), (2, _), (4, _), (7, _), (9, _), (10, _), (11, _), (12, _), (13, _)] ?_
     refine s3 ?_
     refine aDecT ?_ (by exact hj)
     refine s8 ?_
     refine kJ [] ?_
     refine s1 ?_
     refine aCB (fun w hw => awake_any w) ?_
     refine s5 ?_
     refine JR_one rfl (rr_tmp rfl) ?_
     intro w' hw
     exact ⟨rfl, hw.bel⟩
end Go.Proofs.YtmcpnoailbmkkaaGreatDoor
/- The frame of the rows, and parameters: what their reading gives, and that they are read again as they were. -/
namespace Go.Proofs.YtmcpnoailbmkkaaGreatDoor
open Go.ChangeShapes Go.WideShapes Go.ChangeAt Go.RowKit
theorem own : ownKnob Tryz.prog.godebug = none := by kernel_rfl
/-- What every row lists. -/
abbrev laid7 : List (String × DataW Unit) := Rows.topBookRow.laid
theorem met7 (os : Os) (args : Array Value) : laidMetH Tryz.prog laid7 ((World.laidAll Tryz.prog os laid7).forCall (fun _ _ => 0) ⟨#[], args, []⟩).memory := by
  rw [MakeChecks.laidMetH_plain _ _ _ (by kernel_rfl)]; exact laidMet_laidAll _ (by kernel_rfl) (by kernel_rfl)
theorem shaped7 (os : Os) (args : Array Value) : ((World.laidAll Tryz.prog os laid7).forCall (fun _ _ => 0) ⟨#[], args, []⟩).Shaped Tryz.prog :=
  World.shaped_of_ZipB (by kernel_rfl) (by kernel_rfl)
/-- The plain wrap with both: what the row lists, and the world's shape. -/
theorem row_wrap {H : Type} {enc : TypeId × Value → H} {C : Checked} {os : Os} {f : FuncId} {fn : Func} {s : ChangeSpec} {X : World → Array Value → Prop} {a : Assume}
    (hX : ∀ (w w' : World) (args : Array Value), w.heap = w'.heap → X w args → X w' args)
    (own : ownKnob C.prog.godebug = none) (started : os.Started) (noInit : C.prog.inits.idxOf? f = none) (hfn : C.prog.funcs[f]? = some fn)
    (witness : ∃ (w : World) (tape : Tape) (i : Input), w.os = os ∧ (w.forCall tape i).Shaped C.prog ∧ i.vars = [] ∧ Input.okWide C.prog (w.forCall tape i) .any w.heap.size f i ∧
      ((s.pre enc C.prog fn [] false (w.forCall tape i).memory i.args ∧ X (w.forCall tape i).memory i.args) ∧ sizedMet enc C.prog fn (OpenSpec.ofChange s) false (w.forCall tape i).memory i.args) ∧ a.holds C.prog (lone (Frame.enter C.prog f i.args .normal) [] (w.forCall tape i)))
    (contract : ∀ (W : World) (base : Nat) (args : Array Value) (ds gs : List (DataW H)) (before : List MemPlace),
      (∀ (j : Nat) t v, fn.params[j]? = some t → args[j]? = some v → Value.okWide C.prog W .any base t v) →
      DataW.Whole enc C.prog fn.params.toList s.vars false W args.toList ds gs before → X W args → W.ShapedOpen C.prog →
      Calls C.prog f args W fun e W' => ∃ v, e = .returned v ∧ s.post enc C.prog fn false true false false W args v W') :
    ReturnsInHanded a C os f .any (fun w args => (s.pre enc C.prog fn [] false w args ∧ X w args) ∧ sizedMet enc C.prog fn (OpenSpec.ofChange s) false w args) (s.post enc C.prog fn false true false false) := by
  refine returnsInHanded_of_calls own started noInit witness ?_
  intro w tape i _ hsh _ hok hpre hholds
  obtain ⟨_, _, _, fn', hfn', _, _, _, _, hval⟩ := hok
  have e : fn' = fn := Option.some.inj (hfn'.symm.trans hfn)
  subst e
  obtain ⟨⟨⟨ds, gs, before, hw, hc⟩, hx⟩, hz⟩ := hpre
  have hw' := DataW.Whole.of_heap (w' := w.forCall tape i) (by rfl) hw
  refine (contract (w.forCall tape i) w.heap.size i.args ds gs before hval hw' (hX _ _ _ (by rfl) hx) hsh).mono fun e W' ⟨v, he, hp⟩ => ?_
  subst he
  exact ChangeSpec.post_blind hp

section
variable {H : Type} {enc : TypeId × Value → H}
set_option maxRecDepth 100000
theorem el_int : ElC Tryz.prog enc 3 (fun _ cs => ∃ x, cs = [.int .i64 x] ∧ (Lit.int .i64 x).wf = true) := elInt Tryz.underlying3
theorem el_bool : ElC Tryz.prog enc 4 (fun _ cs => ∃ x, cs = [.bool x]) := elBool Tryz.underlying4
theorem el_fix : ElC Tryz.prog enc 39 (fun _ cs => ∃ x, cs = [.int .i64 x] ∧ (Lit.int .i64 x).wf = true) := elInt Tryz.underlying39
theorem fld {fs : Array Field} {Rs : Nat → World → List Value → Prop} {W : World} {cs : List Value} (h : ∀ (i : Nat) (f : Field), fs[i]? = some f → Rs i W ((cs.drop f.offset).take (Tryz.prog.cellsOf f.type))) (i : Nat) {f : Field} (hf : fs[i]? = some f) {n : Nat} (hn : Tryz.prog.cellsOf f.type = n) {c : List Value} (hc : (cs.drop f.offset).take n = c) : Rs i W c := by
 have := h i f hf; rw [hn, hc] at this; exact this
def codeR (i : Nat) (_ : World) (cs : List Value) : Prop := match i with
 | 0 => ∃ x, cs = [.int .i64 x] ∧ (Lit.int .i64 x).wf = true
 | 1 => ∃ x, cs = [.int .i64 x] ∧ (Lit.int .i64 x).wf = true
 | 2 => ∃ x, cs = [.int .i64 x] ∧ (Lit.int .i64 x).wf = true
 | 3 => ∃ x, cs = [.int .i64 x] ∧ (Lit.int .i64 x).wf = true
 | 4 => ∃ x, cs = [.bool x]
 | _ => True
theorem el_code : ElC Tryz.prog enc 23 (fun _ cs => ∃ c : Cd, cs = [.int .i64 c.f, .int .i64 c.t, .int .i64 c.s, .int .i64 c.e, .bool c.p]) := by
 refine (elStruct (Rs := codeR) Tryz.underlying23 (fun i f hi => ?_)).imp fun _ cs ⟨hl, h⟩ => ?_
 ·rcases i with _ | _ | _ | _ | _ | i
  ·obtain rfl := Option.some.inj hi; exact el_int
  ·obtain rfl := Option.some.inj hi; exact el_int
  ·obtain rfl := Option.some.inj hi; exact el_int
  ·obtain rfl := Option.some.inj hi; exact el_int
  ·obtain rfl := Option.some.inj hi; exact el_bool
  ·cases hi
 ·rw [show Tryz.prog.cellsOf 23 = 5 by kernel_rfl] at hl
  obtain ⟨c_0, c_1, c_2, c_3, c_4, rfl⟩ : ∃ c_0 c_1 c_2 c_3 c_4, cs = [c_0, c_1, c_2, c_3, c_4] := by
   match cs, hl with
   | [c_0, c_1, c_2, c_3, c_4], _ => exact ⟨_, _, _, _, _, rfl⟩
  have f0 := fld (c := [c_0]) h 0 rfl (show Tryz.prog.cellsOf _ = 1 by kernel_rfl) rfl
  have f1 := fld (c := [c_1]) h 1 rfl (show Tryz.prog.cellsOf _ = 1 by kernel_rfl) rfl
  have f2 := fld (c := [c_2]) h 2 rfl (show Tryz.prog.cellsOf _ = 1 by kernel_rfl) rfl
  have f3 := fld (c := [c_3]) h 3 rfl (show Tryz.prog.cellsOf _ = 1 by kernel_rfl) rfl
  have f4 := fld (c := [c_4]) h 4 rfl (show Tryz.prog.cellsOf _ = 1 by kernel_rfl) rfl
  obtain ⟨x0, e0, -⟩ := f0
  obtain rfl := (List.cons.inj e0).1
  obtain ⟨x1, e1, -⟩ := f1
  obtain rfl := (List.cons.inj e1).1
  obtain ⟨x2, e2, -⟩ := f2
  obtain rfl := (List.cons.inj e2).1
  obtain ⟨x3, e3, -⟩ := f3
  obtain rfl := (List.cons.inj e3).1
  obtain ⟨x4, e4⟩ := f4
  obtain rfl := (List.cons.inj e4).1
  exact ⟨⟨x0, x1, x2, x3, x4⟩, rfl⟩
def spotR (i : Nat) (_ : World) (cs : List Value) : Prop := match i with
 | 0 => ∃ x, cs = [.int .i64 x] ∧ (Lit.int .i64 x).wf = true
 | 1 => ∃ x, cs = [.int .i64 x] ∧ (Lit.int .i64 x).wf = true
 | _ => True
theorem el_spot : ElC Tryz.prog enc 41 (fun _ cs => ∃ p : Int × Int, cs = eP p) := by
 refine (elStruct (Rs := spotR) Tryz.underlying41 (fun i f hi => ?_)).imp fun _ cs ⟨hl, h⟩ => ?_
 ·rcases i with _ | _ | i
  ·obtain rfl := Option.some.inj hi; exact el_fix
  ·obtain rfl := Option.some.inj hi; exact el_fix
  ·cases hi
 ·rw [show Tryz.prog.cellsOf 41 = 2 by kernel_rfl] at hl
  obtain ⟨c_0, c_1, rfl⟩ : ∃ c_0 c_1, cs = [c_0, c_1] := by
   match cs, hl with
   | [c_0, c_1], _ => exact ⟨_, _, rfl⟩
  have f0 := fld (c := [c_0]) h 0 rfl (show Tryz.prog.cellsOf _ = 1 by kernel_rfl) rfl
  have f1 := fld (c := [c_1]) h 1 rfl (show Tryz.prog.cellsOf _ = 1 by kernel_rfl) rfl
  obtain ⟨x0, e0, -⟩ := f0
  obtain rfl := (List.cons.inj e0).1
  obtain ⟨x1, e1, -⟩ := f1
  obtain rfl := (List.cons.inj e1).1
  exact ⟨(x0, x1), rfl⟩
def stoneR (i : Nat) (_ : World) (cs : List Value) : Prop := match i with
 | 0 => ∃ x, cs = [.int .i64 x] ∧ (Lit.int .i64 x).wf = true
 | 1 => ∃ x, cs = [.int .i64 x] ∧ (Lit.int .i64 x).wf = true
 | 2 => ∃ p : Int × Int, cs = eP p
 | _ => True
theorem el_stone : ElC Tryz.prog enc 43 (fun _ cs => ∃ s : St, cs = eT s) := by
 refine (elStruct (Rs := stoneR) Tryz.underlying43 (fun i f hi => ?_)).imp fun _ cs ⟨hl, h⟩ => ?_
 ·rcases i with _ | _ | _ | i
  ·obtain rfl := Option.some.inj hi; exact el_int
  ·obtain rfl := Option.some.inj hi; exact el_int
  ·obtain rfl := Option.some.inj hi; exact el_spot
  ·cases hi
 ·rw [show Tryz.prog.cellsOf 43 = 4 by kernel_rfl] at hl
  obtain ⟨c_0, c_1, c_2, c_3, rfl⟩ : ∃ c_0 c_1 c_2 c_3, cs = [c_0, c_1, c_2, c_3] := by
   match cs, hl with
   | [c_0, c_1, c_2, c_3], _ => exact ⟨_, _, _, _, rfl⟩
  have f0 := fld (c := [c_0]) h 0 rfl (show Tryz.prog.cellsOf _ = 1 by kernel_rfl) rfl
  have f1 := fld (c := [c_1]) h 1 rfl (show Tryz.prog.cellsOf _ = 1 by kernel_rfl) rfl
  have f2 := fld (c := [c_2, c_3]) h 2 rfl (show Tryz.prog.cellsOf _ = 2 by kernel_rfl) rfl
  obtain ⟨x0, e0, -⟩ := f0
  obtain rfl := (List.cons.inj e0).1
  obtain ⟨x1, e1, -⟩ := f1
  obtain rfl := (List.cons.inj e1).1
  obtain ⟨⟨px, py⟩, e2⟩ := f2
  obtain ⟨rfl, e3⟩ := List.cons.inj e2
  obtain rfl := (List.cons.inj e3).1
  exact ⟨⟨x0, x1, px, py⟩, rfl⟩
theorem el_stones : ElC Tryz.prog enc 24 (fun W cs => ∃ p : Dv St, cs = [p.v] ∧ Arr 4 eT W p.v p.l ∧ p.n = p.l.length) := (elRow (wf := fun _ _ => True) Tryz.underlying24 (by kernel_rfl) ET (by decide) (el_stone.imp fun _ _ ⟨x, h⟩ => ⟨x, h, trivial⟩)).imp fun _ _ ⟨p, h1, h2, h3, _⟩ => ⟨p, h1, h2, h3⟩
def throwR (i : Nat) (W : World) (cs : List Value) : Prop := match i with
 | 0 => ∃ x, cs = [.int .i64 x] ∧ (Lit.int .i64 x).wf = true
 | 1 => ∃ x, cs = [.int .i64 x] ∧ (Lit.int .i64 x).wf = true
 | 2 => ∃ x, cs = [.bool x]
 | 3 => ∃ x, cs = [.bool x]
 | 4 => ∃ x, cs = [.int .i64 x] ∧ (Lit.int .i64 x).wf = true
 | 5 => ∃ p : Dv St, cs = [p.v] ∧ Arr 4 eT W p.v p.l ∧ p.n = p.l.length
 | _ => True
theorem el_throw : ElC Tryz.prog enc 26 (fun W cs => ∃ (x : Th) (d : Dv St), cs = [.int .i64 x.team, .int .i64 x.n, .bool x.late, .bool x.short, .int .i64 x.how, d.v] ∧ Arr 4 eT W d.v d.l ∧ d.n = d.l.length) := by
 refine (elStruct (Rs := throwR) Tryz.underlying26 (fun i f hi => ?_)).imp fun W cs ⟨hl, h⟩ => ?_
 ·rcases i with _ | _ | _ | _ | _ | _ | i
  ·obtain rfl := Option.some.inj hi; exact el_int
  ·obtain rfl := Option.some.inj hi; exact el_int
  ·obtain rfl := Option.some.inj hi; exact el_bool
  ·obtain rfl := Option.some.inj hi; exact el_bool
  ·obtain rfl := Option.some.inj hi; exact el_int
  ·obtain rfl := Option.some.inj hi; exact el_stones
  ·cases hi
 ·rw [show Tryz.prog.cellsOf 26 = 6 by kernel_rfl] at hl
  obtain ⟨c_0, c_1, c_2, c_3, c_4, c_5, rfl⟩ : ∃ c_0 c_1 c_2 c_3 c_4 c_5, cs = [c_0, c_1, c_2, c_3, c_4, c_5] := by
   match cs, hl with
   | [c_0, c_1, c_2, c_3, c_4, c_5], _ => exact ⟨_, _, _, _, _, _, rfl⟩
  have f0 := fld (c := [c_0]) h 0 rfl (show Tryz.prog.cellsOf _ = 1 by kernel_rfl) rfl
  have f1 := fld (c := [c_1]) h 1 rfl (show Tryz.prog.cellsOf _ = 1 by kernel_rfl) rfl
  have f2 := fld (c := [c_2]) h 2 rfl (show Tryz.prog.cellsOf _ = 1 by kernel_rfl) rfl
  have f3 := fld (c := [c_3]) h 3 rfl (show Tryz.prog.cellsOf _ = 1 by kernel_rfl) rfl
  have f4 := fld (c := [c_4]) h 4 rfl (show Tryz.prog.cellsOf _ = 1 by kernel_rfl) rfl
  have f5 := fld (c := [c_5]) h 5 rfl (show Tryz.prog.cellsOf _ = 1 by kernel_rfl) rfl
  obtain ⟨x0, e0, -⟩ := f0
  obtain rfl := (List.cons.inj e0).1
  obtain ⟨x1, e1, -⟩ := f1
  obtain rfl := (List.cons.inj e1).1
  obtain ⟨x2, e2⟩ := f2
  obtain rfl := (List.cons.inj e2).1
  obtain ⟨x3, e3⟩ := f3
  obtain rfl := (List.cons.inj e3).1
  obtain ⟨x4, e4, -⟩ := f4
  obtain rfl := (List.cons.inj e4).1
  obtain ⟨d, e5, h5, h6⟩ := f5
  obtain rfl := (List.cons.inj e5).1
  exact ⟨⟨x0, x1, x2, x3, x4⟩, d, rfl, h5, h6⟩
/-- A parameter's reading again, behind the call. -/
abbrev Again (W : World) (t : TypeId) (v : Value) (d : DataW H) (p : List MemPlace) (enc : TypeId × Value → H) : Prop := ∀ W' : World, Below W.heap.size W W' → ∀ sp : Nat → Bool, (∀ q ∈ p, sp q.block = true) → DataW.Trod enc Tryz.prog W' 0 sp true t v d p
variable {W : World} {base : Nat} {v : Value} {d : DataW H} {p : List MemPlace}
theorem open_num (hv : Value.okWide Tryz.prog W .any base 3 v) (h : DataW.Trod enc Tryz.prog W 0 (fun _ => true) true 3 v d p) : ∃ x : Int, v = .int .i64 x ∧ Again W 3 v d p enc := by
 obtain ⟨a, rfl⟩ := okWide_int Tryz.underlying3 hv
 exact ⟨_, rfl, (el_int.trod h).2⟩
theorem open_code (hv : Value.okWide Tryz.prog W .any base 23 v) (h : DataW.Trod enc Tryz.prog W 0 (fun _ => true) true 23 v d p) : ∃ c : Cd, v = Cdv c ∧ Again W 23 v d p enc := by
 obtain ⟨cs, rfl, -⟩ := okWide_struct Tryz.underlying23 hv
 obtain ⟨⟨c, e⟩, h3⟩ := el_code.trod h
 have e' : cs.toList = [.int .i64 c.f, .int .i64 c.t, .int .i64 c.s, .int .i64 c.e, .bool c.p] := e
 exact ⟨c, by rw [show cs = [Value.int .i64 c.f, .int .i64 c.t, .int .i64 c.s, .int .i64 c.e, .bool c.p].toArray by rw [← e']], h3⟩
theorem open_stones (hv : Value.okWide Tryz.prog W .any base 24 v) (h : DataW.Trod enc Tryz.prog W 0 (fun _ => true) true 24 v d p) : ∃ (A : Option Addr) (l : List St) (c : Nat), v = .slice A l.length c ∧ Arr 4 eT W (.slice A l.length c) l ∧ Again W 24 v d p enc := by
 obtain ⟨a, n, k, rfl⟩ := okWide_slice Tryz.underlying24 hv
 obtain ⟨⟨⟨A, m, c, l⟩, e, h1, hn⟩, h3⟩ := el_stones.trod h
 obtain ⟨rfl, rfl, rfl⟩ : a = A ∧ n = m ∧ k = c := by simpa [Value.cells] using e
 dsimp only at hn; subst hn
 exact ⟨_, l, _, rfl, h1, h3⟩
theorem open_throw (hv : Value.okWide Tryz.prog W .any base 26 v) (h : DataW.Trod enc Tryz.prog W 0 (fun _ => true) true 26 v d p) : ∃ (x : Th) (A : Option Addr) (l : List St) (c : Nat), v = Thv x A l.length c ∧ Arr 4 eT W (.slice A l.length c) l ∧ Again W 26 v d p enc := by
 obtain ⟨cs, rfl, -⟩ := okWide_struct Tryz.underlying26 hv
 obtain ⟨⟨x, ⟨A, m, c, l⟩, e, h1, hn⟩, h3⟩ := el_throw.trod h
 dsimp only at hn; subst hn
 have e' : cs.toList = [.int .i64 x.team, .int .i64 x.n, .bool x.late, .bool x.short, .int .i64 x.how, .slice A l.length c] := e
 exact ⟨x, A, l, c, by rw [show cs = [Value.int .i64 x.team, .int .i64 x.n, .bool x.late, .bool x.short, .int .i64 x.how, .slice A l.length c].toArray by rw [← e']], h1, h3⟩
end
end Go.Proofs.YtmcpnoailbmkkaaGreatDoor
