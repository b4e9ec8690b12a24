/- Contracts of the document's lists of stones: without, Sorted. -/
import Derived.Test.YtomcpgdpjpjioaaFi
import Derived.Test.YtomcpgdpjpjioaaDl
namespace Go.Proofs.Ytomcpgdpjpjioaa
open Go.RowKit Go.Proofs Go.Shelf
attribute [local go_sem] Oper.semAt_some

def goneR (t n : Int) (l : List St) : List St := l.filter (fun s => !eqK s.t s.n t n)
theorem goneR_step (t n : Int) {l : List St} {k : Nat} (h : k < l.length) : goneR t n (l.take (k + 1)) = goneR t n (l.take k) ++ if eqK (l[k]'h).t (l[k]'h).n t n = true then [] else [l[k]'h] := by
  unfold goneR
  rw [List.take_succ_eq_append_getElem h, List.filter_append]
  cases e : eqK (l[k]'h).t (l[k]'h).n t n <;> simp [e]
theorem goneR_len (t n : Int) (l : List St) (k : Nat) : (goneR t n (l.take k)).length ≤ k := by
  unfold goneR
  exact Nat.le_trans (List.length_filter_le _ _) (by rw [List.length_take]; omega)

set_option maxRecDepth 100000 in
set_option maxHeartbeats 2000000 in
theorem without42 (t n : Int) (l : List St) (v : Value) (w : World) (hrow : RowS w v l) (hl : l.length ≤ 900) :
    Calls Try.prog 42 #[v, .int .i64 t, .int .i64 n] w fun e w' => (∃ u, e = .returned u ∧ OwnS w.heap.size w' u (goneR t n l)) ∧ Below w.heap.size w w' := by
  obtain ⟨i0, hi, hz0, hz1, hz2⟩ := info_parts Try.info53
  obtain ⟨A, cap, rfl, hlc, ⟨hcap, hcmx⟩, hcells⟩ := hrow
  have HR := Lib.hid hcells
  clear hcells hcmx
  go_enter Try.func42, Try.ntmps42
  go_wp2_with fail
  have O0 : Hid (w.ownsRow w.heap.size 53 4 (.slice none 0 0) 0 ((goneR t n (l.take 0)).flatMap stC)) := World.ownsRow_nil _ _ _ _
  have B0 : Hid (Below w.heap.size w w) := Below.refl _ _
  go_loopw [7, 8] (fun u iv wr => ∃ (k m : Nat), k ≤ l.length ∧ m = (goneR t n (l.take k)).length ∧ iv = .int .i64 k ∧ Hid (wr.ownsRow w.heap.size 53 4 u m ((goneR t n (l.take k)).flatMap stC)) ∧ Hid (Below w.heap.size w wr)) (fun _ iv _ => l.length - (intOf iv).toNat)
  case atStart => exact ⟨0, 0, by omega, rfl, rfl, O0, B0⟩
  case round =>
    obtain ⟨k, m, hk, hm, rfl, ho, hb⟩ := hrel
    have HB := Lib.hid hb.out
    have HO := Lib.hid ho.out
    have HN := Lib.hid hm
    clear ho hb O0 B0
    by_cases hlt : k < l.length
    · have hlt' : (k : Int) < (l.length : Int) := by omega
      obtain ⟨b, o, rfl, hc⟩ := HR.out (by intro h; subst h; simp at hlt)
      obtain ⟨a0, a1, a2, a3⟩ := (hc k hlt).up HB.out
      have hdk := goneR_len t n l k
      rw [← hm] at hdk
      have hst := goneR_step t n hlt
      obtain ⟨s, hs⟩ : ∃ s, l[k]'hlt = s := ⟨_, rfl⟩
      rw [hs] at a0 a1 a2 a3 hst
      have HST := Lib.hid hst
      clear hs hst hc hm
      obtain ⟨s1, s2, s3, s4⟩ := s
      simp only at a0 a1 a2 a3
      have hz := HB.out.size
      have KEEP : Hid (eqK s1 s2 t n = false → goneR t n (l.take (k + 1)) = goneR t n (l.take k) ++ [⟨s1, s2, s3, s4⟩]) := fun h => by rw [HST.out, if_neg (by rw [h]; simp)]
      have DROP : Hid (eqK s1 s2 t n = true → goneR t n (l.take (k + 1)) = goneR t n (l.take k)) := fun h => by rw [HST.out, if_pos h, List.append_nil]
      have K2 : Hid ((wr.alloc (.cells #[.int .i64 s1, .int .i64 s2, .int .i64 s3, .int .i64 s4] 53)).ownsRow w.heap.size 53 4 u7 m ((goneR t n (l.take k)).flatMap stC)) := HO.out.alloc _
      have B2 : Hid (Below w.heap.size w (wr.alloc (.cells #[.int .i64 s1, .int .i64 s2, .int .i64 s3, .int .i64 s4] 53))) := HB.out.alloc hz _
      have NW := Lib.hid (news_lit wr ⟨s1, s2, s3, s4⟩)
      clear HST
      by_cases e1 : s1 = t
      · subst e1
        by_cases e2 : s2 = n
        · subst e2
          go_wp2_with fail
          go_roundw
          case rel => exact ⟨k + 1, m, by omega, by rw [DROP.out (by simp [eqK]), HN.out], by go_num, by show World.ownsRow _ _ _ _ _ _ _; rw [DROP.out (by simp [eqK])]; exact HO.out, HB⟩
          case measure => simp [intOf]; omega
        · have e2' : (s2 != n) = true := by simpa using e2
          go_wp2_with (at_builtin; refine wpList_append_own _ rfl _ _ 24 rfl w.heap.size 53 i0 _ 4 32 Try.underlying24 hi hz0 hz1 hz2 rfl (by decide) _ _ _ rfl K2.out ⟨wr.heap.size, 0, none⟩ 1 1 (stC ⟨s1, s2, s3, s4⟩) rfl rfl NW.out (fun u h => stC_one1 h) (by unfold maxLen; omega) (by omega) (by simp; omega) ?_; intro v' w5 hown hgrow hnn; have B5 := Lib.hid (B2.out.grown hgrow (by simp; omega) (fun j hj => (ownBlock_ge K2.out hj).1)); have HO5 := Lib.hid hown; clear hown hgrow hnn)
          go_roundw
          case rel => exact ⟨k + 1, m + 1, by omega, by rw [KEEP.out (by simp [eqK, e2]), HN.out]; simp, by go_num, by show World.ownsRow _ _ _ _ _ _ _; rw [KEEP.out (by simp [eqK, e2])]; simpa using HO5.out, B5⟩
          case measure => simp [intOf]; omega
      · have e1' : (s1 != t) = true := by simpa using e1
        go_wp2_with (at_builtin; refine wpList_append_own _ rfl _ _ 24 rfl w.heap.size 53 i0 _ 4 32 Try.underlying24 hi hz0 hz1 hz2 rfl (by decide) _ _ _ rfl K2.out ⟨wr.heap.size, 0, none⟩ 1 1 (stC ⟨s1, s2, s3, s4⟩) rfl rfl NW.out (fun u h => stC_one1 h) (by unfold maxLen; omega) (by omega) (by simp; omega) ?_; intro v' w5 hown hgrow hnn; have B5 := Lib.hid (B2.out.grown hgrow (by simp; omega) (fun j hj => (ownBlock_ge K2.out hj).1)); have HO5 := Lib.hid hown; clear hown hgrow hnn)
        go_roundw
        case rel => exact ⟨k + 1, m + 1, by omega, by rw [KEEP.out (by simp [eqK, e1]), HN.out]; simp, by go_num, by show World.ownsRow _ _ _ _ _ _ _; rw [KEEP.out (by simp [eqK, e1])]; simpa using HO5.out, B5⟩
        case measure => simp [intOf]; omega
    · obtain rfl : k = l.length := by omega
      have hf := HO.out
      have hn2 := HN.out
      rw [List.take_length] at hf hn2
      have HFIN : Hid (OwnS w.heap.size wr u7 (goneR t n l)) := by show World.ownsRow _ _ _ _ _ _ _; rw [hn2] at hf; exact hf
      clear hf hn2
      go_wp2_with fail
      exact bodyPost_ret (v := u7) (by kernel_rfl) rfl ⟨⟨u7, rfl, HFIN.out⟩, HB.out⟩
end Go.Proofs.Ytomcpgdpjpjioaa
