/- Contracts: Named and the document's. -/
import Derived.Test.YtomcpgdpjpjioaaPu
import Derived.Test.YtomcpgdpjpjioaaMp
namespace Go.Proofs.Ytomcpgdpjpjioaa
open Go.RowKit Go.Proofs Go.Shelf

def cdD (c : Cd) : DataW Unit := .agg [.lit (.int .i64 c.f), .lit (.int .i64 c.t), .lit (.int .i64 c.s), .lit (.int .i64 c.e), .lit (.bool c.p)]
def rdCd : Rd := fun v => match v with
  | .agg ⟨[.int .i64 f, .int .i64 t, .int .i64 s, .int .i64 e, .bool p]⟩ => some (cdD ⟨f, t, s, e, p⟩, [])
  | _ => none
theorem rdCd_cd (c : Cd) : rdCd (Cdv c) = some (cdD c, []) := rfl
theorem rdCd_inj {v : Value} {c : Cd} {ps : List MemPlace} (h : rdCd v = some (cdD c, ps)) : v = Cdv c := by
  unfold rdCd at h
  split at h
  · simp only [Option.some.injEq, Prod.mk.injEq, cdD, DataW.agg.injEq, List.cons.injEq, DataW.lit.injEq, Lit.int.injEq, Lit.bool.injEq, true_and, and_true] at h
    obtain ⟨⟨rfl, rfl, rfl, rfl, rfl⟩, -⟩ := h
    rfl
  · cases h
theorem key9K : Maps.Keyed Try.prog 9 := Maps.string_keyed Try.underlying9
theorem key9 (s : ByteArray) (hs : s.size ≤ maxLen) : keyOf Try.prog 9 (.string s) = some (.string s.data.toList) := by
  unfold keyOf
  rw [Try.underlying9]
  simp [mapKey, Try.underlying9, hs]
theorem zero23 (w : World) : (zeroValue 23).run Try.prog w = .ok (Cdv ⟨0, 0, 0, 0, false⟩) w := by kernel_rfl
/-- The code of a name. -/
def nmR (l : List UInt8) : Option Cd := if l = [99, 104, 97, 105, 114] then some ⟨5, 0, 0, 8, false⟩ else if l = [109, 105, 120, 101, 100] then some ⟨0, 0, 3, 5, true⟩ else if l = [111, 108, 100] then some ⟨0, 0, 0, 8, false⟩ else if l = [116, 104, 114, 101, 101] then some ⟨3, 0, 0, 8, false⟩ else if l = [102, 111, 117, 114] then some ⟨4, 0, 0, 8, false⟩ else if l = [119, 111, 114, 108, 100] then some ⟨5, 5, 0, 8, false⟩ else none
def nmV (l : List UInt8) : Value := .tuple #[Cdv ((nmR l).getD ⟨0, 0, 0, 0, false⟩), .int .i64 (if (nmR l).isSome = true then 0 else 7)]
theorem nm_map (l : List UInt8) : (upd (upd (upd (upd (upd (upd (fun _ => none) (.string [119, 111, 114, 108, 100]) (cdD ⟨5, 5, 0, 8, false⟩)) (.string [102, 111, 117, 114]) (cdD ⟨4, 0, 0, 8, false⟩)) (.string [116, 104, 114, 101, 101]) (cdD ⟨3, 0, 0, 8, false⟩)) (.string [111, 108, 100]) (cdD ⟨0, 0, 0, 8, false⟩)) (.string [109, 105, 120, 101, 100]) (cdD ⟨0, 0, 3, 5, true⟩)) (.string [99, 104, 97, 105, 114]) (cdD ⟨5, 0, 0, 8, false⟩)) (.string l) = (nmR l).map cdD := by
  unfold upd nmR
  simp only [Lit.string.injEq]
  repeat (split; · rfl)
  rfl
theorem nm_map6 (l : List UInt8) : (upd (upd (upd (upd (upd (upd (fun _ => none) (.string [119, 111, 114, 108, 100]) (cdD ⟨5, 5, 0, 8, false⟩)) (.string [102, 111, 117, 114]) (cdD ⟨4, 0, 0, 8, false⟩)) (.string [116, 104, 114, 101, 101]) (cdD ⟨3, 0, 0, 8, false⟩)) (.string [111, 108, 100]) (cdD ⟨0, 0, 0, 8, false⟩)) (.string [109, 105, 120, 101, 100]) (cdD ⟨0, 0, 3, 5, true⟩)) (.string [99, 104, 97, 105, 114]) (cdD ⟨5, 0, 0, 8, false⟩)) (.string l) = (nmR l).map cdD := nm_map l
/-- A code's five cells, that may be written. -/
def Cz (w : World) (b : Nat) (c : Cd) : Prop := Cd5 w b c ∧ w.frozen? ⟨b, 0, none⟩ = false ∧ w.frozen? ⟨b, 1, none⟩ = false ∧ w.frozen? ⟨b, 2, none⟩ = false ∧ w.frozen? ⟨b, 3, none⟩ = false ∧ w.frozen? ⟨b, 4, none⟩ = false
theorem Cz.new (w : World) (c : Cd) : Cz (w.alloc (.cells #[.int .i64 c.f, .int .i64 c.t, .int .i64 c.s, .int .i64 c.e, .bool c.p] 23)) w.heap.size c := ⟨Cd5.new w c, by simp [go_sem], by simp [go_sem], by simp [go_sem], by simp [go_sem], by simp [go_sem]⟩
theorem Cz.kept {w w' : World} {b : Nat} {c : Cd} {row : Option Nat} (h : Cz w b c) (hg : w.grownBy w' row) (hne : some b ≠ row) : Cz w' b c := by
  obtain ⟨⟨h0, h1, h2, h3, h4⟩, f0, f1, f2, f3, f4⟩ := h
  have hk := hg.block b (lt_cell h0) hne
  exact ⟨⟨(cell_heap hk).trans h0, (cell_heap hk).trans h1, (cell_heap hk).trans h2, (cell_heap hk).trans h3, (cell_heap hk).trans h4⟩, (frozen_heap hk).trans f0, (frozen_heap hk).trans f1, (frozen_heap hk).trans f2, (frozen_heap hk).trans f3, (frozen_heap hk).trans f4⟩
theorem set5 {w : World} {b : Nat} {c0 : Cd} (h : Cd5 w b c0) (c : Cd) :
    Cd5 (((((w.setCell ⟨b, 0, none⟩ (.int .i64 c.f)).setCell ⟨b, 1, none⟩ (.int .i64 c.t)).setCell ⟨b, 2, none⟩ (.int .i64 c.s)).setCell ⟨b, 3, none⟩ (.int .i64 c.e)).setCell ⟨b, 4, none⟩ (.bool c.p)) b c := by
  obtain ⟨h0, h1, h2, h3, h4⟩ := h
  refine ⟨?_, ?_, ?_, ?_, ?_⟩ <;> simp_all [go_sem]
theorem results_c5 {fn : Func} {t u : Tmp} {b : Nat} {c : Cd} (hf : fn.results = #[.cell t 23, .tmp u]) (tmps : Array Value) (w : World) (ht : tmps.getD t undef = .pointer (some ⟨b, 0, none⟩)) (h5 : Cd5 w b c) :
    (results fn tmps).run Try.prog w = .ok (.tuple #[Cdv c, tmps.getD u undef]) w := by
  have hl : (loadCells ⟨b, 0, none⟩ 5).run Try.prog w = .ok (Cdv c).cells w :=
    run_loadCells_list (P := Try.prog) w ⟨b, 0, none⟩ [.int .i64 c.f, .int .i64 c.t, .int .i64 c.s, .int .i64 c.e, .bool c.p] (fun j v hv => by
      obtain ⟨c0, c1, c2, c3, c4⟩ := h5
      rw [Addr.add_mid]
      rcases j with _ | _ | _ | _ | _ | j <;> simp at hv <;> subst hv <;> assumption)
  have hz : (loadVar 23 ⟨b, 0, none⟩).run Try.prog w = .ok (Cdv c) w := by
    have h1 : (isAgg 23).run Try.prog w = .ok true w := by kernel_rfl
    have h2 : (sizeOf 23).run Try.prog w = .ok 5 w := by kernel_rfl
    simp only [loadVar, Sem.run_bind, h1, h2, hl, Result.andThen_ok, Sem.run_pure, if_true]; rfl
  have hz' : (asAddr (tmps.getD t undef)).run Try.prog w = .ok ⟨b, 0, none⟩ w := by rw [ht]; rfl
  simp only [Array.getD_eq_getD_getElem?] at hz' ⊢
  simp [results, hf, hz', hz]

set_option maxRecDepth 100000 in
set_option maxHeartbeats 4000000 in
theorem Named_any (s : ByteArray) (hs : s.size ≤ maxLen) (w : World) : Calls Try.prog 9 #[.string s] w (Back (nmV s.data.toList) w) := by
  obtain ⟨wa, hwa⟩ : ∃ W, w.alloc (.cells #[.int .i64 0, .int .i64 0, .int .i64 0, .int .i64 0, .bool false] 23) = W := ⟨_, rfl⟩
  have hza : wa.heap.size = w.heap.size + 1 := by rw [← hwa]; simp
  have Ka : Cz wa w.heap.size ⟨0, 0, 0, 0, false⟩ := by rw [← hwa]; exact Cz.new w ⟨0, 0, 0, 0, false⟩
  have Ba : Below w.heap.size w wa := by rw [← hwa]; exact (Below.refl _ _).alloc (Nat.le_refl _) _
  have hm0 := MapA.made 9 rdCd wa
  obtain ⟨w0, hw0⟩ : ∃ W, wa.alloc (.map #[] 0) = W := ⟨_, rfl⟩
  rw [hw0, hza] at hm0
  have B0 : Below w.heap.size w w0 := by rw [← hw0]; exact Ba.alloc Ba.size _
  have K0 : Cz w0 w.heap.size ⟨0, 0, 0, 0, false⟩ := by rw [← hw0]; exact Ka.kept (World.grownBy_alloc wa _ none) (by simp)
  obtain ⟨w1, hr1, hm1, hg1⟩ := hm0.put (t := 62) (e := 23) key9K Try.underlying62 (by omega) (key := .string ⟨#[119, 111, 114, 108, 100]⟩) (val := Cdv ⟨5, 5, 0, 8, false⟩) (kl := .string [119, 111, 114, 108, 100]) (key9 _ (by decide)) (rdCd_cd _)
  have q1 : (Instr.mapUpdate 62 (.map (some (w.heap.size + 1))) (.string ⟨#[119, 111, 114, 108, 100]⟩) (.agg #[.int .i64 5, .int .i64 5, .int .i64 0, .int .i64 8, .bool false])).run Try.prog w0 = .ok () w1 := hr1
  have B1 : Below w.heap.size w w1 := B0.grown hg1 B0.size (fun j e => by cases e; omega)
  have K1 : Cz w1 w.heap.size ⟨0, 0, 0, 0, false⟩ := K0.kept hg1 (by simp)
  obtain ⟨w2, hr2, hm2, hg2⟩ := hm1.put (t := 62) (e := 23) key9K Try.underlying62 (by omega) (key := .string ⟨#[102, 111, 117, 114]⟩) (val := Cdv ⟨4, 0, 0, 8, false⟩) (kl := .string [102, 111, 117, 114]) (key9 _ (by decide)) (rdCd_cd _)
  have q2 : (Instr.mapUpdate 62 (.map (some (w.heap.size + 1))) (.string ⟨#[102, 111, 117, 114]⟩) (.agg #[.int .i64 4, .int .i64 0, .int .i64 0, .int .i64 8, .bool false])).run Try.prog w1 = .ok () w2 := hr2
  have B2 : Below w.heap.size w w2 := B1.grown hg2 B1.size (fun j e => by cases e; omega)
  have K2 : Cz w2 w.heap.size ⟨0, 0, 0, 0, false⟩ := K1.kept hg2 (by simp)
  obtain ⟨w3, hr3, hm3, hg3⟩ := hm2.put (t := 62) (e := 23) key9K Try.underlying62 (by omega) (key := .string ⟨#[116, 104, 114, 101, 101]⟩) (val := Cdv ⟨3, 0, 0, 8, false⟩) (kl := .string [116, 104, 114, 101, 101]) (key9 _ (by decide)) (rdCd_cd _)
  have q3 : (Instr.mapUpdate 62 (.map (some (w.heap.size + 1))) (.string ⟨#[116, 104, 114, 101, 101]⟩) (.agg #[.int .i64 3, .int .i64 0, .int .i64 0, .int .i64 8, .bool false])).run Try.prog w2 = .ok () w3 := hr3
  have B3 : Below w.heap.size w w3 := B2.grown hg3 B2.size (fun j e => by cases e; omega)
  have K3 : Cz w3 w.heap.size ⟨0, 0, 0, 0, false⟩ := K2.kept hg3 (by simp)
  obtain ⟨w4, hr4, hm4, hg4⟩ := hm3.put (t := 62) (e := 23) key9K Try.underlying62 (by omega) (key := .string ⟨#[111, 108, 100]⟩) (val := Cdv ⟨0, 0, 0, 8, false⟩) (kl := .string [111, 108, 100]) (key9 _ (by decide)) (rdCd_cd _)
  have q4 : (Instr.mapUpdate 62 (.map (some (w.heap.size + 1))) (.string ⟨#[111, 108, 100]⟩) (.agg #[.int .i64 0, .int .i64 0, .int .i64 0, .int .i64 8, .bool false])).run Try.prog w3 = .ok () w4 := hr4
  have B4 : Below w.heap.size w w4 := B3.grown hg4 B3.size (fun j e => by cases e; omega)
  have K4 : Cz w4 w.heap.size ⟨0, 0, 0, 0, false⟩ := K3.kept hg4 (by simp)
  obtain ⟨w5, hr5, hm5, hg5⟩ := hm4.put (t := 62) (e := 23) key9K Try.underlying62 (by omega) (key := .string ⟨#[109, 105, 120, 101, 100]⟩) (val := Cdv ⟨0, 0, 3, 5, true⟩) (kl := .string [109, 105, 120, 101, 100]) (key9 _ (by decide)) (rdCd_cd _)
  have q5 : (Instr.mapUpdate 62 (.map (some (w.heap.size + 1))) (.string ⟨#[109, 105, 120, 101, 100]⟩) (.agg #[.int .i64 0, .int .i64 0, .int .i64 3, .int .i64 5, .bool true])).run Try.prog w4 = .ok () w5 := hr5
  have B5 : Below w.heap.size w w5 := B4.grown hg5 B4.size (fun j e => by cases e; omega)
  have K5 : Cz w5 w.heap.size ⟨0, 0, 0, 0, false⟩ := K4.kept hg5 (by simp)
  obtain ⟨w6, hr6, hm6, hg6⟩ := hm5.put (t := 62) (e := 23) key9K Try.underlying62 (by omega) (key := .string ⟨#[99, 104, 97, 105, 114]⟩) (val := Cdv ⟨5, 0, 0, 8, false⟩) (kl := .string [99, 104, 97, 105, 114]) (key9 _ (by decide)) (rdCd_cd _)
  have q6 : (Instr.mapUpdate 62 (.map (some (w.heap.size + 1))) (.string ⟨#[99, 104, 97, 105, 114]⟩) (.agg #[.int .i64 5, .int .i64 0, .int .i64 0, .int .i64 8, .bool false])).run Try.prog w5 = .ok () w6 := hr6
  have B6 : Below w.heap.size w w6 := B5.grown hg6 B5.size (fun j e => by cases e; omega)
  have K6 : Cz w6 w.heap.size ⟨0, 0, 0, 0, false⟩ := K5.kept hg6 (by simp)
  obtain ⟨v, ps, hl, hv⟩ := hm6.look (t := 62) (e := 23) key9K Try.underlying62 (zero23 _) (rdCd_cd _) (key9 s hs)
  rw [nm_map] at hl hv
  have HW : Hid (w0 = (w.alloc (.cells #[.int .i64 0, .int .i64 0, .int .i64 0, .int .i64 0, .bool false] 23)).alloc (.map #[] 0)) := by show _ = _; rw [hwa, hw0]
  have HB := Lib.hid B6
  have HK := Lib.hid K6
  have HV := Lib.hid hv
  have HL := Lib.hid hl
  clear hm0 hm1 hm2 hm3 hm4 hm5 hm6 hg1 hg2 hg3 hg4 hg5 hg6 B0 B1 B2 B3 B4 B5 B6 K0 K1 K2 K3 K4 K5 K6 hr1 hr2 hr3 hr4 hr5 hr6 hv hl Ka Ba hza
  subst hwa hw0
  clear HW
  have hmk : ∀ w, (Instr.makeMap 62 none).run Try.prog w = .ok (.map (some w.heap.size)) (w.alloc (.map #[] 0)) := fun w => by kernel_rfl
  cases ho : nmR s.data.toList with
  | none =>
    rw [ho] at HV HL
    obtain rfl : v = Cdv ⟨0, 0, 0, 0, false⟩ := rdCd_inj HV.out
    have hl2 : (Instr.lookup 62 (.map (some (w.heap.size + 1))) (.string s) true).run Try.prog w6 = .ok (.tuple #[.agg #[.int .i64 0, .int .i64 0, .int .i64 0, .int .i64 0, .bool false], .bool false]) w6 := HL.out
    have HR : Hid (nmV s.data.toList = .tuple #[Cdv ⟨0, 0, 0, 0, false⟩, .int .i64 7]) := by show _ = _; unfold nmV; rw [ho]; rfl
    clear HL HV ho
    go_enter Try.func9, Try.ntmps9
    go_upto_region 3 with fail
    generalize hwx : World.alloc w6 _ = wx
    have KX : Hid (Cz wx w.heap.size ⟨0, 0, 0, 0, false⟩) := by show Cz _ _ _; rw [← hwx]; exact HK.out.kept (World.grownBy_alloc w6 _ none) (by simp)
    have KY : Hid (Cd5 wx w6.heap.size ⟨0, 0, 0, 0, false⟩) := by show Cd5 _ _ _; rw [← hwx]; exact Cd5.new w6 ⟨0, 0, 0, 0, false⟩
    have BX : Hid (Below w.heap.size w wx) := by show Below _ _ _; rw [← hwx]; exact HB.out.alloc HB.out.size _
    clear hmk hwx q1 q2 q3 q4 q5 q6 hl2 HK HB
    obtain ⟨⟨a0, a1, a2, a3, a4⟩, f0, f1, f2, f3, f4⟩ := KX.out
    obtain ⟨b0, b1, b2, b3, b4⟩ := KY.out
    simp only at b0 b1 b2 b3 b4
    go_wp2_with fail
    refine bodyPost_ret (results_c5 (c := ⟨0, 0, 0, 0, false⟩) rfl _ _ rfl (set5 KX.out.1 ⟨0, 0, 0, 0, false⟩)) rfl ?_
    exact ⟨by rw [HR.out]; rfl, ((((BX.out.setCell (p := ⟨w.heap.size, 0, none⟩) (by simp) _).setCell (p := ⟨w.heap.size, 1, none⟩) (by simp) _).setCell (p := ⟨w.heap.size, 2, none⟩) (by simp) _).setCell (p := ⟨w.heap.size, 3, none⟩) (by simp) _).setCell (p := ⟨w.heap.size, 4, none⟩) (by simp) _⟩
  | some c =>
    rw [ho] at HV HL
    obtain rfl : v = Cdv c := rdCd_inj HV.out
    obtain ⟨f, t, s', e, p⟩ := c
    have hl2 : (Instr.lookup 62 (.map (some (w.heap.size + 1))) (.string s) true).run Try.prog w6 = .ok (.tuple #[.agg #[.int .i64 f, .int .i64 t, .int .i64 s', .int .i64 e, .bool p], .bool true]) w6 := HL.out
    have HR : Hid (nmV s.data.toList = .tuple #[Cdv ⟨f, t, s', e, p⟩, .int .i64 0]) := by show _ = _; unfold nmV; rw [ho]; rfl
    clear HL HV ho
    go_enter Try.func9, Try.ntmps9
    go_upto_region 3 with fail
    generalize hwx : World.alloc w6 _ = wx
    have KX : Hid (Cz wx w.heap.size ⟨0, 0, 0, 0, false⟩) := by show Cz _ _ _; rw [← hwx]; exact HK.out.kept (World.grownBy_alloc w6 _ none) (by simp)
    have KY : Hid (Cd5 wx w6.heap.size ⟨f, t, s', e, p⟩) := by show Cd5 _ _ _; rw [← hwx]; exact Cd5.new w6 ⟨f, t, s', e, p⟩
    have BX : Hid (Below w.heap.size w wx) := by show Below _ _ _; rw [← hwx]; exact HB.out.alloc HB.out.size _
    clear hmk hwx q1 q2 q3 q4 q5 q6 hl2 HK HB
    obtain ⟨⟨a0, a1, a2, a3, a4⟩, f0, f1, f2, f3, f4⟩ := KX.out
    obtain ⟨b0, b1, b2, b3, b4⟩ := KY.out
    simp only at b0 b1 b2 b3 b4
    go_wp2_with fail
    refine bodyPost_ret (results_c5 (c := ⟨f, t, s', e, p⟩) rfl _ _ rfl (set5 KX.out.1 ⟨f, t, s', e, p⟩)) rfl ?_
    exact ⟨by rw [HR.out]; rfl, ((((BX.out.setCell (p := ⟨w.heap.size, 0, none⟩) (by simp) _).setCell (p := ⟨w.heap.size, 1, none⟩) (by simp) _).setCell (p := ⟨w.heap.size, 2, none⟩) (by simp) _).setCell (p := ⟨w.heap.size, 3, none⟩) (by simp) _).setCell (p := ⟨w.heap.size, 4, none⟩) (by simp) _⟩
end Go.Proofs.Ytomcpgdpjpjioaa
