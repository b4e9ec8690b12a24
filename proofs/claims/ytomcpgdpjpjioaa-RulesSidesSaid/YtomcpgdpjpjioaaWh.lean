/- Contracts: where; the document's kept and fixed. -/
import Derived.Test.YtomcpgdpjpjioaaKp
namespace Go.Proofs.Ytomcpgdpjpjioaa
open Go.RowKit Go.Proofs Go.Shelf

/-- The places, below k, at which p holds. -/
def wK (p : St → Bool) (l : List St) : Nat → List Nat
  | 0 => []
  | k + 1 => wK p l k ++ (match l[k]? with | some s => if p s = true then [k] else [] | none => [])
theorem wK_step {p : St → Bool} {l : List St} {k : Nat} (h : k < l.length) : wK p l (k + 1) = wK p l k ++ if p (l[k]'h) = true then [k] else [] := by
  show wK p l k ++ (match l[k]? with | some s => if p s = true then [k] else [] | none => []) = _
  rw [List.getElem?_eq_getElem h]
theorem wK_len (p : St → Bool) (l : List St) : ∀ k, (wK p l k).length ≤ k
  | 0 => Nat.le_refl _
  | k + 1 => by
    have := wK_len p l k
    show (wK p l k ++ _).length ≤ _
    rw [List.length_append]
    split
    · split <;> simp <;> omega
    · simp; omega

set_option maxRecDepth 100000 in
set_option maxHeartbeats 2000000 in
theorem where_any (f : FuncId) (c0 : Value) (p : St → Bool) (l : List St) (v : Value) (w : World) (hf : ∀ args w, (callFunc f args).run Try.prog w = .ok (.enter f args) w) (hrow : RowS w v l) (hl : l.length ≤ 1000)
    (hcl : ∀ s W, Below w.heap.size w W → Calls Try.prog f #[c0, Stv s] W (Back (.bool (p s)) W)) :
    Calls Try.prog 34 #[v, .func (.func f) #[c0] #[]] w fun e w' => (∃ A n c, e = .returned (.slice A n c) ∧ OwnN w.heap.size w' (.slice A n c) (wK p l l.length)) ∧ Below w.heap.size w w' := by
  obtain ⟨i0, hi, hz0, hz1, hz2⟩ := info_parts Try.info3
  have HC := Lib.hid hcl
  obtain ⟨A, cap, rfl, hlc, ⟨hcap, hcmx⟩, hcells⟩ := hrow
  have HR := Lib.hid hcells
  clear hcl hcells hcmx
  go_enter Try.func34, Try.ntmps34
  go_wp2_with fail
  have O0 : Hid (w.ownsRow w.heap.size 3 1 (.slice none 0 0) 0 ((wK p l 0).map pv)) := World.ownsRow_nil _ _ _ _
  have B0 : Hid (Below w.heap.size w w) := Below.refl _ _
  go_loopw [5, 10] (fun u iv wr => ∃ (k n : Nat), k ≤ l.length ∧ n ≤ k ∧ iv = .int .i64 k ∧ Hid (wr.ownsRow w.heap.size 3 1 u n ((wK p l k).map pv)) ∧ Hid (Below w.heap.size w wr)) (fun _ iv _ => l.length - (intOf iv).toNat)
  case atStart => exact ⟨0, 0, by omega, by omega, rfl, O0, B0⟩
  case round =>
    obtain ⟨k, n, hk, hn, rfl, ho, hb⟩ := hrel
    have HB := Lib.hid hb.out
    have HO := Lib.hid ho.out
    clear ho hb O0 B0
    by_cases hlt : k < l.length
    · have hlt' : (k : Int) < (l.length : Int) := by omega
      obtain ⟨b, o, rfl, hc⟩ := HR.out (by intro h; subst h; simp at hlt)
      obtain ⟨a0, a1, a2, a3⟩ := (hc k hlt).up HB.out
      have hst := wK_step (p := p) hlt
      obtain ⟨s, hs⟩ : ∃ s, l[k]'hlt = s := ⟨_, rfl⟩
      rw [hs] at a0 a1 a2 a3 hst
      obtain ⟨q, hq⟩ : ∃ q, p s = q := ⟨_, rfl⟩
      have HCk := Lib.hid (HC.out s)
      rw [hq] at HCk hst
      have HST := Lib.hid hst
      clear hq hs hst hc
      obtain ⟨s1, s2, s3, s4⟩ := s
      go_wp2_with fail
      refine (HCk.out _ (HB.out.alloc HB.out.size _)).mono ?_
      rintro e w1 ⟨rfl, hb1⟩
      have HB1 := Lib.hid ((HB.out.alloc HB.out.size (Sto ⟨s1, s2, s3, s4⟩)).trans (hb1.mono (HB.out.alloc HB.out.size (Sto ⟨s1, s2, s3, s4⟩)).size))
      have HO1 : Hid (w1.ownsRow w.heap.size 3 1 u5 n ((wK p l k).map pv)) := by
        obtain ⟨q1, q2⟩ := HO.out.alloc (Sto ⟨s1, s2, s3, s4⟩)
        refine ⟨q1, q2.imp_right ?_⟩
        rintro ⟨g, cap, cur, q3, q4, q5, q6⟩
        exact ⟨g, cap, cur, q3, q4, boxed_cells_up q5 hb1, q6⟩
      clear hb1 a0 a1 a2 a3
      cases q
      · go_wp2_with fail
        go_roundw
        case rel => exact ⟨k + 1, n, by omega, by omega, by go_num, by show World.ownsRow _ _ _ _ _ _ _; rw [HST.out]; simpa using HO1.out, HB1.out⟩
        case measure => simp [intOf]; omega
      · have K2 : Hid ((w1.alloc (.cells #[.int .i64 k] 3)).ownsRow w.heap.size 3 1 u5 n ((wK p l k).map pv)) := HO1.out.alloc _
        have hz := HB1.out.size
        have B2 : Hid (Below w.heap.size w (w1.alloc (.cells #[.int .i64 k] 3))) := HB1.out.alloc hz _
        go_wp2_with (at_builtin; refine wpList_append_own _ rfl _ _ 29 rfl w.heap.size 3 i0 _ 1 8 Try.underlying29 hi hz0 hz1 hz2 rfl (by decide) _ _ _ rfl K2.out ⟨w1.heap.size, 0, none⟩ 1 1 [pv k] rfl rfl (cell_one_new _ _ _) (by simp [Value.oneCell']) (by unfold maxLen; omega) (by omega) (by simp; omega) ?_; intro v' w5 hown hgrow hnn; have B5 := Lib.hid (B2.out.grown hgrow (by simp; omega) (fun j hj => (ownBlock_ge K2.out hj).1)); have HO5 := Lib.hid hown; clear hown hgrow hnn)
        go_roundw
        case rel => exact ⟨k + 1, n + 1, by omega, by omega, by go_num, by show World.ownsRow _ _ _ _ _ _ _; rw [HST.out]; simpa using HO5.out, B5.out⟩
        case measure => simp [intOf]; omega
    · obtain rfl : k = l.length := by omega
      have HF := HO.out
      obtain ⟨A1, c1, hu⟩ : ∃ A c, u5 = .slice A n c := by
        rcases HF.2 with ⟨h1, h0⟩ | ⟨g, cap, cur, h1, -⟩
        · exact ⟨none, 0, by rw [h1, h0]⟩
        · exact ⟨_, _, h1⟩
      subst hu
      have HN := Lib.hid (ownN_of_row HF)
      clear HF
      go_wp2_with fail
      refine bodyPost_ret (results_tmp rfl _ _ _) rfl ?_
      exact ⟨⟨_, _, _, rfl, HN.out⟩, HB.out⟩
end Go.Proofs.Ytomcpgdpjpjioaa
