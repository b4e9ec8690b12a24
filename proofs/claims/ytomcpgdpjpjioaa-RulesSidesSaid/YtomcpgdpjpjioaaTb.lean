/- Contracts: of, table: stones by their names. -/
import Derived.Test.YtomcpgdpjpjioaaOw
import Derived.Test.YtomcpgdpjpjioaaMp
import Derived.Test.YtomcpgdpjpjioaaPt
namespace Go.Proofs.Ytomcpgdpjpjioaa
open Go.RowKit Go.Proofs Go.Shelf
attribute [local go_sem] Oper.semAt_some

theorem row75 : (75 : TypeId) < Try.prog.types.size := of_decide_eq_true (by kernel_rfl)
theorem law75 : Go.Maps.Keyed Try.prog 75 := Go.Maps.Keyed.of_law (deep_law_laid laidOut (m := 2) (by omega) row75 (by kernel_rfl) (by kernel_rfl))
theorem cells75 : Try.prog.cellsOf 75 = 2 := by kernel_rfl
/-- A name's key. -/
def kl (x y : Int) : Lit := .string (keyBytes [.int .i64 x, .int .i64 y])
theorem key75 {x y : Int} (hx : W64 x) (hy : W64 y) : keyOf Try.prog 75 (Ky x y) = some (kl x y) := by
  have h1 := wf64 hx
  have h2 := wf64 hy
  have hk : Try.prog.keyType 75 = true := by kernel_rfl
  have hf : (Ky x y).formed Try.prog 75 = true := by simp [Value.formed, Try.underlying75, cells75]
  have hc3 : Try.prog.cellsOf 3 = 1 := by kernel_rfl
  have hn : ∃ n, Try.prog.types.size = n + 1 := ⟨154, by kernel_rfl⟩
  obtain ⟨n, hn⟩ := hn
  unfold keyOf
  rw [Try.underlying75]
  simp only [hk, hf, hn, Bool.and_self, if_true]
  rw [Option.map_eq_some_iff]
  refine ⟨[.int .i64 x, .int .i64 y], ?_, rfl⟩
  simp [Program.keyLits, Try.underlying75, Try.underlying3, cells75, hc3, h1, h2, Value.cells]
theorem kl_inj {x y x' y' : Int} (hx : W64 x) (hy : W64 y) (hx' : W64 x') (hy' : W64 y') (h : kl x y = kl x' y') : x = x' ∧ y = y' := by
  have h1 := key75 hx hy
  have h2 := key75 hx' hy'
  rw [h] at h1
  have e2 := law75.inj h1 h2
  simpa only [Ky, Value.agg.injEq, Array.mk.injEq, List.cons.injEq, Value.int.injEq, true_and, and_true] using e2
def stDu (s : St) : DataW Unit := .agg [.lit (.int .i64 s.t), .lit (.int .i64 s.n), .lit (.int .i64 s.x), .lit (.int .i64 s.y)]
def rdSt : Rd := fun v => match v with
  | .agg ⟨[.int .i64 t, .int .i64 n, .int .i64 x, .int .i64 y]⟩ => some (stDu ⟨t, n, x, y⟩, [])
  | _ => none
theorem rdSt_st (s : St) : rdSt (Stv s) = some (stDu s, []) := rfl
theorem rdSt_inj {v : Value} {s : St} {ps : List MemPlace} (h : rdSt v = some (stDu s, ps)) : v = Stv s := by
  unfold rdSt at h
  split at h
  · simp only [Option.some.injEq, Prod.mk.injEq, stDu, DataW.agg.injEq, List.cons.injEq, DataW.lit.injEq, Lit.int.injEq, true_and, and_true] at h
    obtain ⟨⟨rfl, rfl, rfl, rfl⟩, -⟩ := h
    rfl
  · cases h
theorem zero53 (w : World) : (zeroValue 53).run Try.prog w = .ok (Stv ⟨0, 0, 0, 0⟩) w := by kernel_rfl
/-- What the table of a list says. -/
noncomputable def tblM (l : List St) : Lit → Option (DataW Unit) := l.foldl (fun m s => upd m (kl s.t s.n) (stDu s)) (fun _ => none)
theorem tblM_snoc (l : List St) (s : St) : tblM (l ++ [s]) = upd (tblM l) (kl s.t s.n) (stDu s) := by unfold tblM; rw [List.foldl_append]; rfl

theorem results_k1 {fn : Func} {t : Tmp} {b : Nat} {x y : Int} (hf : fn.results = #[.cell t 75]) (tmps : Array Value) (w : World) (ht : tmps.getD t undef = .pointer (some ⟨b, 0, none⟩)) (h0 : w.cell? ⟨b, 0, none⟩ = some (.int .i64 x)) (h1 : w.cell? ⟨b, 1, none⟩ = some (.int .i64 y)) :
    (results fn tmps).run Try.prog w = .ok (Ky x y) w := by
  have hl : (loadCells ⟨b, 0, none⟩ 2).run Try.prog w = .ok (Ky x y).cells w :=
    run_loadCells_list (P := Try.prog) w ⟨b, 0, none⟩ [.int .i64 x, .int .i64 y] (fun j v hv => by
      rw [Addr.add_mid]
      rcases j with _ | _ | j <;> simp at hv <;> subst hv <;> assumption)
  have hz : (loadVar 75 ⟨b, 0, none⟩).run Try.prog w = .ok (Ky x y) w := by
    have h1 : (isAgg 75).run Try.prog w = .ok true w := by kernel_rfl
    have h2 : (sizeOf 75).run Try.prog w = .ok 2 w := by kernel_rfl
    simp only [loadVar, Sem.run_bind, h1, h2, hl, Result.andThen_ok, Sem.run_pure, if_true]; rfl
  have hz' : (asAddr (tmps.getD t undef)).run Try.prog w = .ok ⟨b, 0, none⟩ w := by rw [ht]; rfl
  simp only [Array.getD_eq_getD_getElem?] at hz' ⊢
  simp [results, hf, hz', hz]
theorem of_any (s : St) (w : World) : Calls Try.prog 46 #[Stv s] w (Back (Ky s.t s.n) w) := by
  obtain ⟨s1, s2, s3, s4⟩ := s
  go_enter Try.func46, Try.ntmps46
  go_wp2_with fail
  refine bodyPost_ret (results_k1 (x := s1) (y := s2) rfl _ _ rfl ?_ ?_) rfl ⟨rfl, ((Below.refl _ _).alloc (Nat.le_refl _) _).alloc (by simp) _⟩
  · simp [go_sem]
  · simp [go_sem]
/-- The contract of table. -/
def TabC (l : List St) (w : World) (e : Ending) (w' : World) : Prop := (∃ b, e = .returned (.map (some b)) ∧ w.heap.size ≤ b ∧ MapA 75 rdSt w' b l.length (tblM l)) ∧ Below w.heap.size w w'

set_option maxRecDepth 100000 in
set_option maxHeartbeats 2000000 in
theorem table_any (l : List St) (v : Value) (w : World) (hrow : RowS w v l) (hl : l.length ≤ 900) (hok : ∀ j (h : j < l.length), W64 (l[j]'h).t ∧ W64 (l[j]'h).n) : Calls Try.prog 45 #[v] w (TabC l w) := by
  obtain ⟨A, cap, rfl, hlc, -, hcells⟩ := hrow
  have HC := Lib.hid hcells
  have HK := Lib.hid hok
  clear hcells hok
  have M0 : Hid (MapA 75 rdSt (w.alloc (.map #[] 0)) w.heap.size 0 (tblM (l.take 0))) := MapA.made 75 rdSt w
  have B0 : Hid (Below w.heap.size w (w.alloc (.map #[] 0))) := (Below.refl _ _).alloc (Nat.le_refl _) _
  have hmk : ∀ w, (Instr.makeMap 76 none).run Try.prog w = .ok (.map (some w.heap.size)) (w.alloc (.map #[] 0)) := fun w => by kernel_rfl
  go_enter Try.func45, Try.ntmps45
  go_wp2_with fail
  clear hmk
  go_loopw [9] (fun iv wr => ∃ k : Nat, k ≤ l.length ∧ w.heap.size < wr.heap.size ∧ iv = .int .i64 k ∧ Hid (MapA 75 rdSt wr w.heap.size k (tblM (l.take k))) ∧ Hid (Below w.heap.size w wr)) (fun iv _ => l.length - (intOf iv).toNat)
  case atStart => exact ⟨0, by omega, by simp, rfl, M0, B0⟩
  case round =>
    obtain ⟨k, hk, hsz, rfl, hm, hb⟩ := hrel
    have HM := Lib.hid hm.out
    have HB := Lib.hid hb.out
    clear hm hb M0 B0
    by_cases hlt : k < l.length
    · have hlt' : (k : Int) < (l.length : Int) := by omega
      obtain ⟨b, o, rfl, hc⟩ := HC.out (by intro h; subst h; simp at hlt)
      obtain ⟨a0, a1, a2, a3⟩ := (hc k hlt).up HB.out
      have hw := HK.out k hlt
      have htk : tblM (l.take (k + 1)) = upd (tblM (l.take k)) (kl (l[k]'hlt).t (l[k]'hlt).n) (stDu (l[k]'hlt)) := by rw [List.take_succ_eq_append_getElem hlt, tblM_snoc]
      obtain ⟨s, hs⟩ : ∃ s, l[k]'hlt = s := ⟨_, rfl⟩
      rw [hs] at a0 a1 a2 a3 hw htk
      have HT := Lib.hid htk
      have HW := Lib.hid hw
      clear hs hc htk hw
      obtain ⟨s1, s2, s3, s4⟩ := s
      simp only at a0 a1 a2 a3
      go_upto_region 5 with fail
      generalize hwx : World.alloc wr _ = wx
      have KX : At4 wx wr.heap.size 0 ⟨s1, s2, s3, s4⟩ := by rw [← hwx]; exact At4.new wr ⟨s1, s2, s3, s4⟩
      have BX : Below w.heap.size w wx := by rw [← hwx]; exact HB.out.alloc HB.out.size _
      have MX : MapA 75 rdSt wx w.heap.size k (tblM (l.take k)) := by rw [← hwx]; exact HM.out.up ((Below.refl _ _).alloc (Nat.le_refl _) _)
      have BX3 : wr.heap.size < wx.heap.size := by rw [← hwx]; simp
      clear hwx a0 a1 a2 a3 HM HB
      refine wp_region_P (fun i w' => (i = 1 ∨ i = 3) → At4 w' wr.heap.size 0 ⟨s1, s2, s3, s4⟩) (by kernel_rfl) ?_
      refine wpAnyP_take (i := 0) (v := .map (some w.heap.size)) rfl (by kernel_rfl) (by kernel_rfl) (by kernel_rfl) (fun _ _ _ h => h) (yieldsIf_run rfl (fun w hS => ?_)) (fun h => by omega) ?_
      · go_simp
      refine wpAnyP_take (i := 1) (v := Stv ⟨s1, s2, s3, s4⟩) rfl (by kernel_rfl) (by kernel_rfl) (by kernel_rfl) (fun _ _ _ h => h) (yieldsIf_run rfl (fun w hS => ?_)) (fun _ => KX) ?_
      · obtain ⟨c0, c1, c2, c3⟩ := hS (.inl rfl)
        go_simp
      refine wpAnyP_take (i := 3) (v := Stv ⟨s1, s2, s3, s4⟩) rfl (by kernel_rfl) (by kernel_rfl) (by kernel_rfl) (fun _ _ _ h => h) (yieldsIf_run rfl (fun w hS => ?_)) (fun _ => KX) ?_
      · obtain ⟨c0, c1, c2, c3⟩ := hS (.inr rfl)
        go_simp
      have BD : Below w.heap.size w wx.drew := BX.drew
      refine wpAnyP_one (i := 2) (by kernel_rfl) (wpOp_call (f := 46) (args := #[Stv ⟨s1, s2, s3, s4⟩]) rfl rfl (by kernel_rfl) ?_)
      refine (of_any ⟨s1, s2, s3, s4⟩ _).mono ?_
      rintro e w2 ⟨rfl, hb2⟩
      refine ⟨_, rfl, fun k _ hS h => (hS h).up hb2, ?_⟩
      have MX2 : MapA 75 rdSt w2 w.heap.size k (tblM (l.take k)) := (show MapA 75 rdSt wx.drew w.heap.size k (tblM (l.take k)) from MX).up hb2
      obtain ⟨w3, hrun, hm3, hg3⟩ := MX2.put (t := 76) (e := 53) law75 Try.underlying76 (by omega) (key := Ky s1 s2) (val := Stv ⟨s1, s2, s3, s4⟩) (kl := kl s1 s2) (key75 HW.out.1 HW.out.2) (rdSt_st _)
      have B3 : Below w.heap.size w w3 := (BD.trans (hb2.mono BD.size)).grown hg3 (BD.trans (hb2.mono BD.size)).size (fun j e => by cases e; omega)
      refine wpAnyP_one (i := 4) (by kernel_rfl) (wpOp_skip (w' := w3) rfl rfl ?_ ⟨fun i hf hS h => ?_, ?_⟩)
      · unfold execOp
        go_simp
      · have hne : some wr.heap.size ≠ some w.heap.size := fun e => by simp only [Option.some.injEq] at e; omega
        obtain ⟨c0, c1, c2, c3⟩ := hS (by omega)
        exact ⟨hg3.cell c0 hne, hg3.cell c1 hne, hg3.cell c2 hne, hg3.cell c3 hne⟩
      refine wpAnyP_done (by kernel_rfl) ?_ _
      have HM3 := Lib.hid hm3
      have HB3 := Lib.hid B3
      have hsz3 : w.heap.size < w3.heap.size := by
        have h1 := BX3
        have h2 := hb2.size
        have h3 := hg3.size
        have h4 : wx.drew.heap.size = wx.heap.size := rfl
        omega
      clear BX3
      clear hm3 B3 hg3 hrun MX2 hb2 BD MX BX KX
      go_wp2_with fail
      go_roundw
      case rel => exact ⟨k + 1, by omega, hsz3, by go_num, (by rw [HT.out]; exact HM3), HB3⟩
      case measure => simp [intOf]; omega
    · obtain rfl : k = l.length := by omega
      have hfin : TabC l w (.returned (.map (some w.heap.size))) wr := by
        have h1 := HM.out
        rw [List.take_length] at h1
        exact ⟨⟨_, rfl, Nat.le_refl _, h1⟩, HB.out⟩
      have HFIN := Lib.hid hfin
      clear hfin HM HB
      go_wp2_with fail
      exact bodyPost_ret (v := .map (some w.heap.size)) (by simp [results, Try.results45, go_sem]) rfl HFIN.out
end Go.Proofs.Ytomcpgdpjpjioaa
