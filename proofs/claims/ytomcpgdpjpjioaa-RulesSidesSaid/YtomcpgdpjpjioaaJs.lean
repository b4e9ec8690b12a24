/- Contracts: judge's closures (the outcome of a list; the stone that was thrown). -/
import Derived.Test.YtomcpgdpjpjioaaDs
import Derived.Test.YtomcpgdpjpjioaaSe
namespace Go.Proofs.Ytomcpgdpjpjioaa
open Go.RowKit Go.Proofs Go.Shelf
attribute [local go_sem] Oper.semAt_some

theorem results_o {fn : Func} {t : Tmp} {b : Nat} {p : Oc} (hf : fn.results = #[.cell t 46]) (tmps : Array Value) (w : World) (ht : tmps.getD t undef = .pointer (some ⟨b, 0, none⟩)) (h : OcAt w b 0 p) (hv : ∃ A n c, p.v = .slice A n c) :
    (results fn tmps).run Try.prog w = .ok (Ocv p) w := by
  obtain ⟨v, l, g⟩ := p
  obtain ⟨A, n, c, hv⟩ := hv
  simp only at hv
  subst hv
  have hl : (loadCells ⟨b, 0, none⟩ 2).run Try.prog w = .ok (Ocv ⟨.slice A n c, l, g⟩).cells w :=
    run_loadCells_list (P := Try.prog) w ⟨b, 0, none⟩ [.slice A n c, .bool g] (fun j v hv => by
      obtain ⟨h0, h1⟩ := h
      rw [Addr.add_mid]
      rcases j with _ | _ | j <;> simp at hv <;> subst hv <;> assumption)
  have hz : (loadVar 46 ⟨b, 0, none⟩).run Try.prog w = .ok (Ocv ⟨.slice A n c, l, g⟩) w := by
    have h1 : (isAgg 46).run Try.prog w = .ok true w := by kernel_rfl
    have h2 : (sizeOf 46).run Try.prog w = .ok 2 w := by kernel_rfl
    simp only [loadVar, Sem.run_bind, h1, h2, hl, Result.andThen_ok, Sem.run_pure, if_true]; rfl
  have hz' : (asAddr (tmps.getD t undef)).run Try.prog w = .ok ⟨b, 0, none⟩ w := by rw [ht]; rfl
  simp only [Array.getD_eq_getD_getElem?] at hz' ⊢
  simp [results, hf, hz', hz]
/-- The sorted stones of a list. -/
def SrtO (l : List St) (B : Nat) (w' : World) (p : Oc) : Prop :=
  (∃ g c, p.v = .slice (some ⟨g, 0, none⟩) l.length c ∧ B ≤ g) ∧ RowS w' p.v p.l ∧ p.l.Perm l ∧ p.l.Pairwise (fun a b => kyS a ≤ kyS b)
theorem SrtO.up {l : List St} {B : Nat} {w w' : World} {p : Oc} (h : SrtO l B w p) (hb : Below w.heap.size w w') : SrtO l B w' p := ⟨h.1, h.2.1.up hb, h.2.2⟩
theorem RowS.kept {W W' : World} {g o n c : Nat} {l : List St} {row : Option Nat} (h : RowS W (.slice (some ⟨g, o, none⟩) n c) l) (hg : W.grownBy W' row) (hne : some g ≠ row) : RowS W' (.slice (some ⟨g, o, none⟩) n c) l := by
  obtain ⟨A, cap, he, h1, h2, h3⟩ := h
  refine ⟨A, cap, he, h1, h2, fun hn => ?_⟩
  obtain ⟨b, o', hA, hc⟩ := h3 hn
  injection he with e1 e2 e3
  rw [← e1] at hA
  injection hA with hA
  injection hA with hA1 hA2 hA3
  subst hA1 hA2
  exact ⟨_, _, e1.symm, fun j hj => (hc j hj).kept hg hne⟩
theorem oc_set {w : World} {b : Nat} {p0 : Oc} (h : OcAt w b 0 p0) (p : Oc) : OcAt ((w.setCell ⟨b, 0, none⟩ p.v).setCell ⟨b, 1, none⟩ (.bool p.g)) b 0 p := by
  obtain ⟨h0, h1⟩ := h
  refine ⟨?_, ?_⟩ <;> simp_all [go_sem]
set_option maxHeartbeats 1000000 in
theorem as65 (l : List St) (v : Value) (w : World) (hrow : RowS w v l) (hl : l.length ≤ 1000) (hok : ∀ s ∈ l, bnd s) :
    Calls Try.prog 65 #[v] w fun e w' => (∃ p : Oc, e = .returned (Ocv p) ∧ p.g = false ∧ SrtO l w.heap.size w' p) ∧ Below w.heap.size w w' := by
  have H48 : Hid (∀ W, Below w.heap.size w W → Calls Try.prog 48 #[v] W (SortC l W)) := fun W hW => sorted_any l v W (hrow.up hW) hl hok
  have B0 : Hid (Below w.heap.size w (w.alloc (.cells #[.slice none 0 0, .bool false] 46))) := (Below.refl _ _).alloc (Nat.le_refl _) _
  have C0 : Hid (OcAt (w.alloc (.cells #[.slice none 0 0, .bool false] 46)) w.heap.size 0 ⟨.slice none 0 0, [], false⟩) := OcAt.new w ⟨.slice none 0 0, [], false⟩
  have F0 : Hid ((w.alloc (.cells #[.slice none 0 0, .bool false] 46)).frozen? ⟨w.heap.size, 0, none⟩ = false ∧ (w.alloc (.cells #[.slice none 0 0, .bool false] 46)).frozen? ⟨w.heap.size, 1, none⟩ = false) := ⟨by simp [go_sem], by simp [go_sem]⟩
  clear hrow hl hok
  go_enter Try.func65, Try.ntmps65
  go_upto_region 1 with fail
  go_wp2_with (go_at_call 48; (with_reducible refine (H48.out _ B0.out).mono ?_); rintro e w1 ⟨⟨g, c, l', rfl, hg, hr, hp, hs⟩, hb1⟩; have C1 := Lib.hid (C0.out.up hb1); have F1 : Hid (w1.frozen? ⟨w.heap.size, 0, none⟩ = false ∧ w1.frozen? ⟨w.heap.size, 1, none⟩ = false) := ⟨(hb1.frozen (by simp)).trans F0.out.1, (hb1.frozen (by simp)).trans F0.out.2⟩; have B1 := Lib.hid (B0.out.trans (hb1.mono B0.out.size)); have HR := Lib.hid hr; have HP := Lib.hid hp; have HS := Lib.hid hs; clear hr hp hs hb1 C0 F0 B0 H48; obtain ⟨c0, c1⟩ := C1.out; obtain ⟨f0, f1⟩ := F1.out; simp only [Nat.zero_add] at c0 c1)
  have X := oc_set C1.out ⟨.slice (some ⟨g, 0, none⟩) l.length c, l', false⟩
  refine bodyPost_ret (results_o (p := ⟨.slice (some ⟨g, 0, none⟩) l.length c, l', false⟩) rfl _ _ rfl X ⟨_, _, _, rfl⟩) rfl ⟨⟨_, rfl, rfl, ⟨g, c, rfl, ?_⟩, ?_, HP.out, HS.out⟩, ?_⟩
  · have h1 : w.heap.size + 1 ≤ g := by simpa using hg
    omega
  · have h1 : w.heap.size + 1 ≤ g := by simpa using hg
    exact ((HR.out.kept (grown_set w1 ⟨w.heap.size, 0, none⟩ _) (by simp; omega)).kept (grown_set _ ⟨w.heap.size, 1, none⟩ _) (by simp; omega))
  · exact (B1.out.setCell (p := ⟨w.heap.size, 0, none⟩) (by simp) _).setCell (p := ⟨w.heap.size, 1, none⟩) (by simp) _
set_option maxHeartbeats 1000000 in
theorem own67 (x : Th) (px : Nat) (s : St) (w : World) (h0 : w.cell? ⟨px, 0, none⟩ = some (.int .i64 x.team)) (h1 : w.cell? ⟨px, 1, none⟩ = some (.int .i64 x.n)) :
    Calls Try.prog 67 #[Stv s, .pointer (some ⟨px, 0, none⟩)] w (Back (.bool (eqK s.t s.n x.team x.n)) w) := by
  obtain ⟨s1, s2, s3, s4⟩ := s
  obtain ⟨x1, x2, x3, x4, x5⟩ := x
  have B : Hid (Below w.heap.size w (w.alloc (Sto ⟨s1, s2, s3, s4⟩))) := (Below.refl _ _).alloc (Nat.le_refl _) _
  have k0 := upa h0 (Sto ⟨s1, s2, s3, s4⟩)
  have k1 := upa h1 (Sto ⟨s1, s2, s3, s4⟩)
  clear h0 h1
  by_cases e : s1 = x1
  · subst e
    go_enter Try.func67, Try.ntmps67
    go_wp2_with fail
    go_ret
    exact ⟨by simp [eqK], B.out⟩
  · go_enter Try.func67, Try.ntmps67
    go_wp2_with fail
    go_ret
    exact ⟨by simp [eqK, e], B.out⟩
end Go.Proofs.Ytomcpgdpjpjioaa
