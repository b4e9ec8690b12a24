/- What judge leaves in memory, and the plain ruling. The parts of judge's switch. -/
import Derived.Test.YtomcpgdpjpjioaaJs
import Derived.Test.YtomcpgdpjpjioaaLn
import Derived.Test.YtomcpgdpjpjioaaCt
namespace Go.Proofs.Ytomcpgdpjpjioaa
open Go.RowKit Go.Proofs Go.Shelf

/-- A ruling's three cells, that may be written. -/
def r3C (r ch : Int) (v : Value) : List Value := [.int .i64 r, .int .i64 ch, v]
def R3 (W : World) (b : Nat) (r ch : Int) (v : Value) : Prop := ∀ j, j < 3 → W.cell? ⟨b, j, none⟩ = (r3C r ch v)[j]? ∧ W.frozen? ⟨b, j, none⟩ = false
theorem R3.lt {W : World} {b : Nat} {r ch : Int} {v : Value} (h : R3 W b r ch v) : b < W.heap.size := by
  have h0 : W.cell? ⟨b, 0, none⟩ = some (.int .i64 r) := (h 0 (by omega)).1
  exact lt_cell h0
theorem R3.kept {w w' : World} {b : Nat} {r ch : Int} {v : Value} {row : Option Nat} (h : R3 w b r ch v) (hg : w.grownBy w' row) (hne : some b ≠ row) : R3 w' b r ch v := by
  have hk := hg.block b h.lt hne
  exact fun j hj => ⟨(cell_heap hk).trans (h j hj).1, (frozen_heap hk).trans (h j hj).2⟩
theorem R3.up {w w' : World} {b : Nat} {r ch : Int} {v : Value} (h : R3 w b r ch v) (hb : Below w.heap.size w w') : R3 w' b r ch v := h.kept (grown_of hb none) (by simp)
theorem R3.new (w : World) (r ch : Int) (v : Value) : R3 (w.alloc (.cells #[.int .i64 r, .int .i64 ch, v] 40)) w.heap.size r ch v := by
  intro j hj
  rcases j with _ | _ | _ | j
  all_goals first
    | (exfalso; omega)
    | exact ⟨by simp [go_sem]; rfl, by simp [go_sem]⟩
theorem R3.set0 {w : World} {b : Nat} {r ch : Int} {v : Value} (h : R3 w b r ch v) (q : Int) : R3 (w.setCell ⟨b, 0, none⟩ (.int .i64 q)) b q ch v := by
  intro j hj
  have h6 := h 0 (by omega)
  have hj' := h j hj
  rcases j with _ | _ | _ | j
  all_goals first
    | (exfalso; omega)
    | (refine ⟨?_, ?_⟩ <;> simp_all [go_sem, r3C])
theorem R3.set1 {w : World} {b : Nat} {r ch : Int} {v : Value} (h : R3 w b r ch v) (q : Int) : R3 (w.setCell ⟨b, 1, none⟩ (.int .i64 q)) b r q v := by
  intro j hj
  have h6 := h 1 (by omega)
  have hj' := h j hj
  rcases j with _ | _ | _ | j
  all_goals first
    | (exfalso; omega)
    | (refine ⟨?_, ?_⟩ <;> simp_all [go_sem, r3C])
theorem R3.set2 {w : World} {b : Nat} {r ch : Int} {v : Value} (h : R3 w b r ch v) (q : Value) : R3 (w.setCell ⟨b, 2, none⟩ q) b r ch q := by
  intro j hj
  have h6 := h 2 (by omega)
  have hj' := h j hj
  rcases j with _ | _ | _ | j
  all_goals first
    | (exfalso; omega)
    | (refine ⟨?_, ?_⟩ <;> simp_all [go_sem, r3C])
theorem R3.cells {w : World} {b : Nat} {r ch : Int} {v : Value} (h : R3 w b r ch v) :
    (w.cell? ⟨b, 0, none⟩ = some (.int .i64 r) ∧ w.cell? ⟨b, 1, none⟩ = some (.int .i64 ch) ∧ w.cell? ⟨b, 2, none⟩ = some v) ∧ w.frozen? ⟨b, 0, none⟩ = false ∧ w.frozen? ⟨b, 1, none⟩ = false ∧ w.frozen? ⟨b, 2, none⟩ = false :=
  ⟨⟨(h 0 (by omega)).1, (h 1 (by omega)).1, (h 2 (by omega)).1⟩, (h 0 (by omega)).2, (h 1 (by omega)).2, (h 2 (by omega)).2⟩
theorem set3 {w : World} {b : Nat} {r0 c0 : Int} {v0 : Value} (h : R3 w b r0 c0 v0) (r ch : Int) (v : Value) :
    R3 (((w.setCell ⟨b, 0, none⟩ (.int .i64 r)).setCell ⟨b, 1, none⟩ (.int .i64 ch)).setCell ⟨b, 2, none⟩ v) b r ch v := ((h.set0 r).set1 ch).set2 v
abbrev Rlv (r ch : Int) (v : Value) : Value := .agg #[.int .i64 r, .int .i64 ch, v]
theorem results_r3 {fn : Func} {t : Tmp} {b : Nat} {r ch : Int} {v : Value} (hf : fn.results = #[.cell t 40]) (tmps : Array Value) (w : World) (ht : tmps.getD t undef = .pointer (some ⟨b, 0, none⟩)) (h : R3 w b r ch v) (hv : ∃ A n c, v = .slice A n c) :
    (results fn tmps).run Try.prog w = .ok (Rlv r ch v) w := by
  obtain ⟨A, n, c, rfl⟩ := hv
  have hl : (loadCells ⟨b, 0, none⟩ 3).run Try.prog w = .ok (Rlv r ch (.slice A n c)).cells w :=
    run_loadCells_list (P := Try.prog) w ⟨b, 0, none⟩ (r3C r ch (.slice A n c)) (fun j v hv => by
      have hj : j < 3 := by
        have := (List.getElem?_eq_some_iff.1 hv).1
        simpa [r3C] using this
      rw [Addr.add_mid, Nat.zero_add, (h j hj).1]; exact hv)
  have hz : (loadVar 40 ⟨b, 0, none⟩).run Try.prog w = .ok (Rlv r ch (.slice A n c)) w := by
    have h1 : (isAgg 40).run Try.prog w = .ok true w := by kernel_rfl
    have h2 : (sizeOf 40).run Try.prog w = .ok 3 w := by kernel_rfl
    simp only [loadVar, Sem.run_bind, h1, h2, hl, Result.andThen_ok, Sem.run_pure, if_true]; rfl
  have hz' : (asAddr (tmps.getD t undef)).run Try.prog w = .ok ⟨b, 0, none⟩ w := by rw [ht]; rfl
  simp only [Array.getD_eq_getD_getElem?] at hz' ⊢
  simp [results, hf, hz', hz]
/-- A new slice of outcomes. -/
theorem RowO.new (W : World) (L : List Oc) (cs : Array Value) (hc : cs.toList = L.flatMap oC) (hl : L.length ≤ 1000) :
    RowO (W.alloc (.cells cs 46)) (.slice (some ⟨W.heap.size, 0, none⟩) L.length L.length) L := by
  refine ⟨_, _, rfl, Nat.le_refl _, ⟨by omega, by unfold maxLen; omega⟩, fun _ => ⟨_, 0, rfl, fun j hj => ?_⟩⟩
  have one : ∀ i, i < 2 → (W.alloc (.cells cs 46)).cell? ⟨W.heap.size, j * 2 + i, none⟩ = (oC (L[j]'hj))[i]? := fun i hi => by
    rw [← oC_get hj i hi, ← hc, Array.getElem?_toList]
    simp [go_sem]
  refine ⟨?_, ?_⟩
  · rw [Nat.zero_add]; exact (one 0 (by omega)).trans rfl
  · rw [Nat.zero_add]; exact (one 1 (by omega)).trans rfl
/-- Outcomes, plainly. -/
abbrev Pr := List St × Bool
def oP (p : Oc) : Pr := (p.l, p.g)
def samP (p o : Pr) : Bool := p.2 == o.2 && eqL p.1 o.1
def ddP (L : List Pr) : List Pr := L.foldl (fun out o => if (out.any fun p => samP p o) = true then out else out ++ [o]) []
theorem dd_mapA (L : List Oc) : ∀ (A : List Oc) (B : List Pr), A.map oP = B →
    (L.foldl (fun out o => if (out.any fun p => samO p o) = true then out else out ++ [o]) A).map oP = (L.map oP).foldl (fun out o => if (out.any fun p => samP p o) = true then out else out ++ [o]) B := by
  induction L with
  | nil => exact fun _ _ h => h
  | cons o L ih =>
    intro A B h
    simp only [List.foldl_cons, List.map_cons]
    have e : (A.any fun p => samO p o) = (B.any fun p => samP p (oP o)) := by
      rw [← h, List.any_map]; rfl
    rw [e]
    by_cases hb : (B.any fun p => samP p (oP o)) = true
    · rw [if_pos hb, if_pos hb]; exact ih A B h
    · rw [if_neg hb, if_neg hb]; exact ih _ _ (by rw [List.map_append, h]; rfl)
theorem dd_map (L : List Oc) : (dd L).map oP = ddP (L.map oP) := dd_mapA L [] [] rfl
/-- Which rule applies. -/
def ruleN (x : Th) (r m s : Bool) : Nat := match (List.range 9).find? (apL x r m s) with | some k => k + 1 | none => 0
theorem ruleN_at {x : Th} {r m s : Bool} {k : Nat} (hk : k < 9) (h : apL x r m s k = true) (hn : ∀ j, j < k → apL x r m s j = false) : ruleN x r m s = k + 1 := by
  unfold ruleN
  have : (List.range 9).find? (apL x r m s) = some k := by
    rw [List.find?_range_eq_some]
    exact ⟨h, List.mem_range.2 hk, fun j hj => by rw [hn j hj]; rfl⟩
  rw [this]
theorem ruleN_no {x : Th} {r m s : Bool} (hn : ∀ j, j < 9 → apL x r m s j = false) : ruleN x r m s = 0 := by
  unfold ruleN
  have : (List.range 9).find? (apL x r m s) = none := by
    rw [List.find?_eq_none]
    intro j hj
    rw [hn j (List.mem_range.1 hj)]; simp
  rw [this]
theorem ruleN_le (x : Th) (r m s : Bool) : ruleN x r m s ≤ 9 := by
  unfold ruleN
  split
  · rename_i k h
    have := List.mem_range.1 (List.mem_of_find?_eq_some h)
    omega
  · omega
/-- The stones without the one that was thrown. -/
def gone (x : Th) (m : List St) : List St := m.filter (fun s => !eqK s.t s.n x.team x.n)
/-- The outcomes of a rule, and who chooses. -/
def judP (rule : Nat) (x : Th) (l m : List St) : List Pr :=
  if rule = 0 then [(srt m, false)] else if rule = 4 then [(srt l, true)] else if rule = 5 then ddP [(srt l, false), (srt m, false), (srt (gone x m), false)]
  else if rule = 6 then ddP [(srt m, false), (srt l, true)] else if rule = 9 then ddP [(srt m, false), (srt l, false)] else [(srt l, false)]
def judC (rule : Nat) (x : Th) : Int := if rule = 5 ∨ rule = 9 then 1 - x.team else if rule = 6 then x.team else -1
/-- Where judge is behind its loop. -/
def JdS (w W : World) (pr : Nat) (x : Th) (u : Value) (rule : Int) : Prop :=
  Below w.heap.size w W ∧ Th6 W (w.heap.size + 1) x u ∧ R3 W (w.heap.size + 1 + 1) 0 0 (.slice none 0 0) ∧ R3 W pr rule (-1) (.slice none 0 0) ∧ w.heap.size + 3 ≤ pr
theorem JdS.up {w W W' : World} {pr : Nat} {x : Th} {u : Value} {rule : Int} (h : JdS w W pr x u rule) (hb : Below W.heap.size W W') : JdS w W' pr x u rule := by
  obtain ⟨h1, h2, h3, h4, h5⟩ := h
  exact ⟨h1.trans (hb.mono h1.size), h2.up hb, h3.up hb, h4.up hb, h5⟩
theorem JdS.set0 {w W : World} {pr : Nat} {x : Th} {u : Value} {rule : Int} (h : JdS w W pr x u rule) (q : Int) : JdS w (W.setCell ⟨pr, 0, none⟩ (.int .i64 q)) pr x u q := by
  obtain ⟨h1, h2, h3, h4, h5⟩ := h
  have hg := grown_set W ⟨pr, 0, none⟩ (.int .i64 q)
  exact ⟨h1.setCell (p := ⟨pr, 0, none⟩) (by simp; omega) _, h2.kept hg (by simp; omega), h3.kept hg (by simp; omega), h4.set0 q, h5⟩
end Go.Proofs.Ytomcpgdpjpjioaa

namespace Go.Proofs.Ytomcpgdpjpjioaa
open Go.RowKit Go.Proofs Go.Shelf

/-- Outcomes whose stones lie in blocks from some number on. -/
def OcG (W : World) (base : Nat) (L : List Oc) : Prop := ∀ p ∈ L, RowS W p.v p.l ∧ ∃ g n c, p.v = .slice (some ⟨g, 0, none⟩) n c ∧ base ≤ g
theorem OcG.up {W W' : World} {base : Nat} {L : List Oc} (h : OcG W base L) (hb : Below W.heap.size W W') : OcG W' base L := fun p hp => ⟨(h p hp).1.up hb, (h p hp).2⟩
theorem OcG.kept {W W' : World} {base k : Nat} {L : List Oc} (h : OcG W base L) (hg : W.grownBy W' (some k)) (hk : k < base) : OcG W' base L := by
  intro p hp
  obtain ⟨h1, g, n, c, h2, h3⟩ := h p hp
  obtain ⟨v, l, b⟩ := p
  simp only at h2
  subst h2
  exact ⟨h1.kept hg (by simp; omega), g, n, c, rfl, h3⟩
theorem OcG.ocR {W : World} {base : Nat} {L : List Oc} (h : OcG W base L) : OcR W L := fun p hp => (h p hp).1
theorem OcG.cons {W : World} {base : Nat} {L : List Oc} {p : Oc} (hr : RowS W p.v p.l) (hp : ∃ g n c, p.v = .slice (some ⟨g, 0, none⟩) n c ∧ base ≤ g) (h : OcG W base L) : OcG W base (p :: L) := by
  intro q hq
  rcases List.mem_cons.1 hq with rfl | hq
  · exact ⟨hr, hp⟩
  · exact h q hq
theorem OcG.nil {W : World} {base : Nat} : OcG W base [] := fun _ h => by cases h
theorem as_any (l : List St) (v : Value) (w : World) (hrow : RowS w v l) (hl : l.length ≤ 1000) (hok : ∀ s ∈ l, bnd s) (hd : dis l) :
    Calls Try.prog 65 #[v] w fun e w' => (∃ g c, e = .returned (.agg #[.slice (some ⟨g, 0, none⟩) l.length c, .bool false]) ∧ w.heap.size ≤ g ∧ RowS w' (.slice (some ⟨g, 0, none⟩) l.length c) (srt l)) ∧ Below w.heap.size w w' := by
  refine (as65 l v w hrow hl hok).mono ?_
  rintro e w' ⟨⟨p, rfl, hg, ⟨g, c, hv, hge⟩, hr, hp, hs⟩, hb⟩
  obtain ⟨pv, pl, pg⟩ := p
  simp only at hg hv hr hp hs
  subst hg hv
  obtain rfl := srt_uniq hok hd hp hs
  exact ⟨⟨g, c, rfl, hge, hr⟩, hb⟩
theorem sort_any (l : List St) (v : Value) (w : World) (hrow : RowS w v l) (hl : l.length ≤ 1000) (hok : ∀ s ∈ l, bnd s) (hd : dis l) :
    Calls Try.prog 48 #[v] w fun e w' => (∃ g c, e = .returned (.slice (some ⟨g, 0, none⟩) l.length c) ∧ w.heap.size ≤ g ∧ RowS w' (.slice (some ⟨g, 0, none⟩) l.length c) (srt l)) ∧ Below w.heap.size w w' := by
  refine (sorted_any l v w hrow hl hok).mono ?_
  rintro e w' ⟨⟨g, c, l', rfl, hge, hr, hp, hs⟩, hb⟩
  obtain rfl := srt_uniq hok hd hp hs
  exact ⟨⟨g, c, rfl, hge, hr⟩, hb⟩
theorem dis_filter {l : List St} (h : dis l) (p : St → Bool) : dis (l.filter p) := fun a ha b hb => h a (List.mem_filter.1 ha).1 b (List.mem_filter.1 hb).1
theorem bnd_filter {l : List St} (h : ∀ s ∈ l, bnd s) (p : St → Bool) : ∀ s ∈ l.filter p, bnd s := fun s hs => h s (List.mem_filter.1 hs).1
theorem ownO_kept {W W' : World} {base k : Nat} {v : Value} {L : List Oc} (h : OwnO base W v L) (hg : W.grownBy W' (some k)) (hk : k < base) : OwnO base W' v L := by
  refine ⟨h.1, h.2.imp_right ?_⟩
  rintro ⟨g, cap, cur, rfl, hbg, hgw, h4⟩
  refine ⟨g, cap, cur, rfl, hbg, ?_, h4⟩
  rw [hg.block g (Array.getElem?_eq_some_iff.1 hgw).1 (by intro e; injection e with e; omega)]
  exact hgw
theorem JdS.below {w W : World} {pr : Nat} {x : Th} {u : Value} {rule : Int} (h : JdS w W pr x u rule) : Below w.heap.size w W := h.1
/-- What a switch's drawn region reads. -/
def SJ (w w' : World) (po : Nat) (x : Th) (u : Value) (p : Oc) : Prop := Th6 w' (w.heap.size + 1) x u ∧ OcAt w' po 0 p
theorem SJ.up {w w' W : World} {po : Nat} {x : Th} {u : Value} {p : Oc} (h : SJ w w' po x u p) (hb : Below w'.heap.size w' W) : SJ w W po x u p := ⟨h.1.up hb, h.2.up hb⟩
theorem SJ.kept {w w' W : World} {po k : Nat} {x : Th} {u : Value} {p : Oc} (h : SJ w w' po x u p) (hg : w'.grownBy W (some k)) (h1 : w.heap.size + 1 ≠ k) (h2 : po ≠ k) : SJ w W po x u p :=
  ⟨h.1.kept hg (by simpa using h1), hg.cell h.2.1 (by simpa using h2), hg.cell h.2.2 (by simpa using h2)⟩
theorem SJ.alloc {w w' : World} {po : Nat} {x : Th} {u : Value} {p : Oc} (h : SJ w w' po x u p) (o : Obj) : SJ w (w'.alloc o) po x u p := h.up ((Below.refl _ _).alloc (Nat.le_refl _) _)
theorem cellB {W W' : World} {B b i : Nat} {v : Value} (hW : Below B W W') (h : b < B) (hc : W.cell? ⟨b, i, none⟩ = some v) : W'.cell? ⟨b, i, none⟩ = some v := (hW.cell (p := ⟨b, i, none⟩) h).trans hc
theorem SJ.below {w w' W : World} {B po : Nat} {x : Th} {u : Value} {p : Oc} (h : SJ w w' po x u p) (hb : Below B w' W) (h1 : w.heap.size + 1 < B) (h2 : po < B) : SJ w W po x u p := by
  obtain ⟨⟨a0, a1, a2, a3, a4, a5⟩, b0, b1⟩ := h
  exact ⟨⟨cellB hb h1 a0, cellB hb h1 a1, cellB hb h1 a2, cellB hb h1 a3, cellB hb h1 a4, cellB hb h1 a5⟩, cellB hb h2 b0, cellB hb h2 b1⟩
theorem SJ.lt {w w' : World} {po : Nat} {x : Th} {u : Value} {p : Oc} (h : SJ w w' po x u p) : po < w'.heap.size := lt_cell h.2.1
/-- Where judge is behind the call of distinct. -/
def JdE (w w5 : World) (pr : Nat) (x : Th) (u : Value) (k : Int) (L : List Oc) (A : Option Addr) (n c : Nat) : Prop :=
  JdS w w5 pr x u k ∧ (∃ base, pr < base ∧ OwnO base w5 (.slice A n c) (dd L)) ∧ n = (dd L).length ∧ OcG w5 (pr + 1) L
theorem dist_jd (w W : World) (pr : Nat) (x : Th) (u : Value) (k : Int) (L : List Oc) (cs : Array Value) (hc : cs.toList = L.flatMap oC) (hJ : JdS w W pr x u k) (hG : OcG W (pr + 1) L) (hl : L.length ≤ 900) :
    Calls Try.prog 66 #[.slice (some ⟨W.heap.size, 0, none⟩) L.length L.length] (W.alloc (.cells cs 46)) fun e w' => ∃ A n c, e = .returned (.slice A n c) ∧ JdE w w' pr x u k L A n c ∧ Below (W.alloc (.cells cs 46)).heap.size (W.alloc (.cells cs 46)) w' := by
  have b0 : Below W.heap.size W (W.alloc (.cells cs 46)) := (Below.refl _ _).alloc (Nat.le_refl _) _
  refine (dist66 L _ _ (RowO.new W L cs hc (by omega)) (hG.up b0).ocR hl).mono ?_
  rintro e w' ⟨⟨A, c, rfl, ho⟩, hb⟩
  have hb' := b0.trans (hb.mono (by simp))
  refine ⟨A, _, c, rfl, ⟨hJ.up hb', ⟨_, ?_, ho⟩, rfl, hG.up hb'⟩, hb⟩
  have := hJ.2.2.2.1.lt
  simp; omega
/-- What a ruling holds: its outcomes, in blocks from some number on. -/
def RulAt (W : World) (base : Nat) (v : Value) (P : List Pr) : Prop := ∃ A c L, v = .slice A (List.length L) c ∧ RowO W v L ∧ OcG W base L ∧ L.map oP = P ∧ ∀ b o, A = some ⟨b, o, none⟩ → base ≤ b
theorem RowO.kept {W W' : World} {A : Option Addr} {n c k : Nat} {L : List Oc} (h : RowO W (.slice A n c) L) (hg : W.grownBy W' (some k)) (hk : ∀ b o, A = some ⟨b, o, none⟩ → b ≠ k) : RowO W' (.slice A n c) L := by
  obtain ⟨A', cap, h1, h2, h3, h4⟩ := h
  injection h1 with e1 e2 e3
  subst e1 e2 e3
  refine ⟨_, _, rfl, h2, h3, fun hn => ?_⟩
  obtain ⟨b, o, h5, h6⟩ := h4 hn
  have := hk b o h5
  exact ⟨b, o, h5, fun j hj => ⟨hg.cell (h6 j hj).1 (by simpa using this), hg.cell (h6 j hj).2 (by simpa using this)⟩⟩
theorem RulAt.up {W W' : World} {base : Nat} {v : Value} {P : List Pr} (h : RulAt W base v P) (hb : Below W.heap.size W W') : RulAt W' base v P := by
  obtain ⟨A, c, L, h1, h2, h3, h4, h5⟩ := h
  exact ⟨A, c, L, h1, h2.up hb, h3.up hb, h4, h5⟩
theorem RulAt.kept {W W' : World} {base k : Nat} {v : Value} {P : List Pr} (h : RulAt W base v P) (hg : W.grownBy W' (some k)) (hk : k < base) : RulAt W' base v P := by
  obtain ⟨A, c, L, rfl, h2, h3, h4, h5⟩ := h
  exact ⟨A, c, L, rfl, h2.kept hg (fun b o e => by have := h5 b o e; omega), h3.kept hg hk, h4, h5⟩
theorem OcG.le {W : World} {b b' : Nat} {L : List Oc} (h : OcG W b L) (hb : b' ≤ b) : OcG W b' L := fun p hp => by
  obtain ⟨h1, g, n, c, h2, h3⟩ := h p hp
  exact ⟨h1, g, n, c, h2, by omega⟩
theorem RulAt.le {W : World} {b b' : Nat} {v : Value} {P : List Pr} (h : RulAt W b v P) (hb : b' ≤ b) : RulAt W b' v P := by
  obtain ⟨A, c, L, h1, h2, h3, h4, h5⟩ := h
  exact ⟨A, c, L, h1, h2, h3.le hb, h4, fun b o e => Nat.le_trans hb (h5 b o e)⟩
theorem RulAt.form {W : World} {base : Nat} {v : Value} {P : List Pr} (h : RulAt W base v P) : ∃ A c, v = .slice A P.length c := by
  obtain ⟨A, c, L, h1, -, -, h4, -⟩ := h
  exact ⟨A, c, by rw [h1, ← h4, List.length_map]⟩
theorem RulAt.nil (W : World) (base : Nat) : RulAt W base (.slice none 0 0) [] :=
  ⟨none, 0, [], rfl, ⟨none, 0, rfl, Nat.le_refl _, ⟨by simp, by unfold maxLen; omega⟩, fun h => absurd rfl h⟩, OcG.nil, rfl, fun _ _ h => by cases h⟩
/-- What judge comes to. -/
def JudC (rule : Nat) (x : Th) (l m : List St) (w : World) (e : Ending) (w' : World) : Prop :=
  (∃ v, e = .returned (Rlv rule (judC rule x) v) ∧ RulAt w' w.heap.size v (judP rule x l m)) ∧ Below w.heap.size w w'
/-- The end of judge: behind the stores into the ruling, and behind its copy. -/
theorem jud_end {w w5 W : World} {pr k n c : Nat} {A : Option Addr} {x : Th} {u : Value} {l m : List St} {ch : Int} {L : List Oc} (hE : JdE w w5 pr x u (k : Int) L A n c)
    (hlen : L.length ≤ 900) (hch : ch = judC k x) (hL : ddP (L.map oP) = judP k x l m) (hW : w5.grownBy W (some pr)) :
    JudC k x l m w (.returned (Rlv k ch (.slice A n c))) (((W.setCell ⟨w.heap.size + 1 + 1, 0, none⟩ (.int .i64 k)).setCell ⟨w.heap.size + 1 + 1, 1, none⟩ (.int .i64 ch)).setCell ⟨w.heap.size + 1 + 1, 2, none⟩ (.slice A n c)) := by
  obtain ⟨⟨h1, h2, h3, h4, h5⟩, ⟨base, hb, hD⟩, hn, hG⟩ := hE
  subst hn hch
  have g3 : W.grownBy _ (some (w.heap.size + 1 + 1)) := ((grown_set W ⟨w.heap.size + 1 + 1, 0, none⟩ (.int .i64 k)).trans (grown_set _ ⟨w.heap.size + 1 + 1, 1, none⟩ (.int .i64 (judC k x)))).trans (grown_set _ ⟨w.heap.size + 1 + 1, 2, none⟩ (.slice A (dd L).length c))
  have hdl : (dd L).length ≤ L.length := by
    have := dd_len L L.length (Nat.le_refl _)
    rwa [List.take_length] at this
  have hb1 : Below w.heap.size w W := h1.grown hW h1.size (fun j e => by injection e with e; omega)
  refine ⟨⟨_, rfl, A, c, dd L, rfl, ?_, ?_, ?_, ?_⟩, hb1.grown g3 hb1.size (fun j e => by injection e with e; omega)⟩
  · exact RowO.of_own (ownO_kept (ownO_kept hD hW hb) g3 (by omega)) (by omega)
  · exact fun p hp => (((hG.kept hW (by omega)).kept g3 (by omega)).le (by omega)) p (dd_mem L p hp)
  · rw [dd_map, hL]
  · rintro b o rfl
    have h1 : (dd L).length ≤ (dd L).length := Nat.le_refl _
    rcases hD.2 with ⟨e, -⟩ | ⟨g, cap, cur, e, hbg, -⟩
    · cases e
    · injection e with e _ _
      injection e with e
      injection e with e
      omega
/-- The stores into the ruling. -/
theorem JdE.st2 {w w5 : World} {pr n c : Nat} {A : Option Addr} {x : Th} {u : Value} {k : Int} {L : List Oc} (hE : JdE w w5 pr x u k L A n c) (v : Value) :
    R3 (w5.setCell ⟨pr, 2, none⟩ v) pr k (-1) v ∧ w5.grownBy (w5.setCell ⟨pr, 2, none⟩ v) (some pr) ∧ R3 (w5.setCell ⟨pr, 2, none⟩ v) (w.heap.size + 1 + 1) 0 0 (.slice none 0 0) := by
  obtain ⟨⟨h1, h2, h3, h4, h5⟩, -⟩ := hE
  exact ⟨h4.set2 v, grown_set w5 ⟨pr, 2, none⟩ v, h3.kept (grown_set w5 ⟨pr, 2, none⟩ v) (by simp; omega)⟩
theorem JdE.st12 {w w5 : World} {pr n c : Nat} {A : Option Addr} {x : Th} {u : Value} {k : Int} {L : List Oc} (hE : JdE w w5 pr x u k L A n c) (q : Int) (v : Value) :
    R3 ((w5.setCell ⟨pr, 1, none⟩ (.int .i64 q)).setCell ⟨pr, 2, none⟩ v) pr k q v ∧ w5.grownBy ((w5.setCell ⟨pr, 1, none⟩ (.int .i64 q)).setCell ⟨pr, 2, none⟩ v) (some pr) ∧ R3 ((w5.setCell ⟨pr, 1, none⟩ (.int .i64 q)).setCell ⟨pr, 2, none⟩ v) (w.heap.size + 1 + 1) 0 0 (.slice none 0 0) := by
  obtain ⟨⟨h1, h2, h3, h4, h5⟩, -⟩ := hE
  have hg : w5.grownBy ((w5.setCell ⟨pr, 1, none⟩ (.int .i64 q)).setCell ⟨pr, 2, none⟩ v) (some pr) := (grown_set w5 ⟨pr, 1, none⟩ (.int .i64 q)).trans (grown_set _ ⟨pr, 2, none⟩ v)
  exact ⟨(h4.set1 q).set2 v, hg, h3.kept hg (by simp; omega)⟩
end Go.Proofs.Ytomcpgdpjpjioaa
