/- Contract: sorted. -/
import Derived.Test.YtomcpgdpjpjioaaSo
import Derived.Test.YtomcpgdpjpjioaaPu
namespace Go.Proofs.Ytomcpgdpjpjioaa
open Go.RowKit Go.Proofs Go.Shelf
open Go.Sort (HoldsK flatK get_flatK size_flatK)

/-- Stones with valid names, as the sort's elements. -/
def toSN (l : List St) (h : ∀ s ∈ l, bnd s) : List SN := l.attach.map fun s => ⟨s.1, h s.1 s.2⟩
theorem toSN_val (l : List St) (h : ∀ s ∈ l, bnd s) : (toSN l h).map SN.st = l := by
  unfold toSN
  rw [List.map_map]
  show l.attach.map (fun s => s.1) = l
  exact List.attach_map_subtype_val l
theorem flat_get (d : Array SN) (l : List St) (hd : d.toList.map SN.st = l) (j : Nat) (hj : j < l.length * 4) : (flatK encS 4 d)[j]! = (l.flatMap stC)[j]'(by rw [stC_len]; exact hj) := by
  have hs : d.size = l.length := by rw [← hd]; simp
  rw [get_flatK _ _ _ _ (by rw [hs]; exact hj)]
  have hq : j / 4 < l.length := by omega
  have hqd : j / 4 < d.size := by omega
  have h1 := stC_get hq (j % 4) (by omega)
  have e : j / 4 * 4 + j % 4 = j := by omega
  rw [e, List.getElem?_eq_getElem (by rw [stC_len]; exact hj)] at h1
  have h2 : (d[j / 4]!).1 = l[j / 4]'hq := by
    rw [getElem!_pos d (j / 4) hqd]
    have : (d.toList.map SN.st)[j / 4]? = l[j / 4]? := by rw [hd]
    rw [List.getElem?_map, Array.getElem?_toList, Array.getElem?_eq_getElem hqd, List.getElem?_eq_getElem hq] at this
    simpa using this
  show (stC (d[j / 4]!).1)[j % 4]! = _
  rw [h2]
  rw [List.getElem!_eq_getElem?_getD, ← h1]
  rfl
theorem holds_of {W : World} {base g cap : Nat} {d : Array SN} {l : List St} (hd : d.toList.map SN.st = l) (h : W.ownsRow base 53 4 (.slice (some ⟨g, 0, none⟩) l.length cap) l.length (l.flatMap stC)) : HoldsK encS 4 W g 0 d := by
  have hs : d.size = l.length := by rw [← hd]; simp
  intro j hj
  rw [size_flatK, hs] at hj
  rw [flat_get d l hd j hj, Nat.zero_add]
  refine ⟨?_, h.frozenAt j⟩
  rw [h.cellAt j hj, List.getElem?_eq_getElem (by rw [stC_len]; exact hj)]
  rfl
theorem rowS_holds {W : World} {g cap : Nat} {d : Array SN} {l : List St} (hd : d.toList.map SN.st = l) (h : HoldsK encS 4 W g 0 d) (hc : l.length ≤ cap) (hm : cap ≤ maxLen) (hl : l.length ≤ 1000) : RowS W (.slice (some ⟨g, 0, none⟩) l.length cap) l := by
  have hs : d.size = l.length := by rw [← hd]; simp
  refine ⟨_, _, rfl, hc, ⟨by omega, hm⟩, fun _ => ⟨g, 0, rfl, fun j hj => ?_⟩⟩
  have one : ∀ i, i < 4 → W.cell? ⟨g, j * 4 + i, none⟩ = (stC (l[j]'hj))[i]? := fun i hi => by
    have h1 := (h (j * 4 + i) (by rw [size_flatK, hs]; omega)).1
    rw [flat_get d l hd _ (by omega), Nat.zero_add] at h1
    have h2 := stC_get hj i hi
    rw [List.getElem?_eq_getElem (by rw [stC_len]; omega)] at h2
    rw [h1, ← h2]; rfl
  refine ⟨?_, ?_, ?_, ?_⟩
  · rw [Nat.zero_add]; exact (one 0 (by omega)).trans rfl
  · rw [Nat.zero_add]; exact (one 1 (by omega)).trans rfl
  · rw [Nat.zero_add]; exact (one 2 (by omega)).trans rfl
  · rw [Nat.zero_add]; exact (one 3 (by omega)).trans rfl
/-- What sorted comes to. -/
def SortC (l : List St) (w : World) (e : Ending) (w' : World) : Prop :=
  (∃ g c l', e = .returned (.slice (some ⟨g, 0, none⟩) l.length c) ∧ w.heap.size ≤ g ∧ RowS w' (.slice (some ⟨g, 0, none⟩) l.length c) l' ∧ l'.Perm l ∧ l'.Pairwise (fun a b => kyS a ≤ kyS b)) ∧ Below w.heap.size w w'
theorem sorted_out {l : List St} {d d' : Array SN} (hd : d.toList.map SN.st = l) (hp : Go.Sort.PermIn 0 d.size d d') (hs : Go.Sort.SortedIn (ltOf cfS) 0 d.size d') :
    (d'.toList.map SN.st).Perm l ∧ (d'.toList.map SN.st).Pairwise (fun a b => kyS a ≤ kyS b) := by
  obtain ⟨h1, -, h2⟩ := hp
  constructor
  · rw [← hd]
    have e1 : d'.extract 0 d.size = d' := by rw [← h1]; exact Array.extract_size
    have e2 : d.extract 0 d.size = d := Array.extract_size
    rw [e1, e2] at h2
    exact h2.map _
  · rw [List.pairwise_map, List.pairwise_iff_getElem]
    intro i j hi hj hij
    have hi' : i < d'.size := by simpa using hi
    have hj' : j < d'.size := by simpa using hj
    have h3 := hs i j (Nat.zero_le _) hij (by omega)
    rw [ltS] at h3
    rw [getElem!_pos d' j hj', getElem!_pos d' i hi'] at h3
    simp only [decide_eq_false_iff_not] at h3
    simp only [Array.getElem_toList]
    omega

set_option maxRecDepth 100000 in
set_option maxHeartbeats 2000000 in
theorem sorted_any (l : List St) (v : Value) (w : World) (hrow : RowS w v l) (hl : l.length ≤ 1000) (hok : ∀ s ∈ l, bnd s) : Calls Try.prog 48 #[v] w (SortC l w) := by
  obtain ⟨i0, hi, hz0, hz1, hz2⟩ := info_parts Try.info53
  have HR := Lib.hid hrow
  obtain ⟨A, cap, hv⟩ := hrow.form
  subst hv
  obtain ⟨d, hd⟩ : ∃ d : Array SN, d.toList.map SN.st = l := ⟨(toSN l hok).toArray, toSN_val l hok⟩
  have hds : d.size = l.length := by rw [← hd]; simp
  have HD := Lib.hid hd
  have HOw : Hid ((w.alloc (.cells #[] 53)).ownsRow w.heap.size 53 4 (.slice (some ⟨w.heap.size, 0, none⟩) 0 0) 0 []) := World.ownsRow_lit w #[] 0 (Nat.le_refl _) (Nat.zero_le _) rfl
  have BA : Hid (Below w.heap.size w (w.alloc (.cells #[] 53))) := (Below.refl _ _).alloc (Nat.le_refl _) _
  -- behind the append
  have KEY : Hid (∀ (v' : Value) (w1 : World), w1.ownsRow w.heap.size 53 4 v' l.length (l.flatMap stC) → v' ≠ .slice none 0 0 → Below w.heap.size w w1 → ∃ g c, v' = .slice (some ⟨g, 0, none⟩) l.length c ∧
      Calls Try.prog 70 #[.slice (some ⟨g, 0, none⟩) l.length c, .func (.func 71) #[] #[]] w1 fun e w2 => e = .returned (.tuple #[]) ∧ SortC l w (.returned (.slice (some ⟨g, 0, none⟩) l.length c)) w2) := by
    intro v' w1 hown hne hb
    rcases hown.2 with ⟨h1, -⟩ | ⟨g, c, cur, rfl, hbg, hg, hlc, hcm, -⟩
    · exact absurd h1 hne
    · refine ⟨g, c, rfl, ?_⟩
      have hH := holds_of HD.out hown
      have hgl := (Array.getElem?_eq_some_iff.1 hg).1
      have hs70 := sort70 g c d w1 hH hgl (by omega)
      rw [hds] at hs70
      refine hs70.mono ?_
      rintro e w2 ⟨rfl, d', n, os, hp, hs, rfl⟩
      refine ⟨rfl, ?_⟩
      have hsz : d'.size = d.size := hp.1.trans (by rw [hds])
      rw [← hds] at hp hs
      obtain ⟨o1, o2⟩ := sorted_out HD.out hp hs
      have hH2 := holdsK_sortWorldK encS 4 w1 g 0 n d d' os hgl hH hsz
      have hl' : (d'.toList.map SN.st).length = l.length := by rw [List.length_map, Array.length_toList, hsz, hds]
      have hrow := rowS_holds (d := d') (l := d'.toList.map SN.st) (cap := c) rfl hH2 (by omega) hcm (by omega)
      rw [hl'] at hrow
      exact ⟨⟨g, c, _, rfl, hbg, hrow, o1, o2⟩, hb.grown (grownBy_sortK d') hb.size (fun k e => by cases e; exact hbg)⟩
  clear hd HD hds
  cases A with
  | none =>
    have hl0 : l = [] := by
      obtain ⟨A, cap', he, h1, h2, h3⟩ := HR.out
      injection he with e1 _ _
      subst e1
      cases l with
      | nil => rfl
      | cons a l => obtain ⟨b, o, h, -⟩ := h3 (by simp); cases h
    subst hl0
    obtain ⟨g, c, hv, h70⟩ := KEY.out (.slice (some ⟨w.heap.size, 0, none⟩) 0 0) _ HOw.out (by simp) BA.out
    injection hv with e1 e2 e3
    clear e2 hok hl
    injection e1 with e1
    injection e1 with e1
    subst e1 e3
    have H70 := Lib.hid h70
    clear h70 KEY HOw BA hrow HR
    go_enter Try.func48, Try.ntmps48
    go_wp2_with (go_at_call 70; refine H70.out.mono ?_; rintro e w2 ⟨rfl, hfin⟩; have HFIN := Lib.hid hfin; clear hfin)
    exact bodyPost_ret (v := .slice (some ⟨w.heap.size, 0, none⟩) 0 0) (by simp [results, Try.results48, go_sem]) rfl HFIN.out
  | some a =>
    have hnews : ∀ j u, (l.flatMap stC)[j]? = some u → (w.alloc (.cells #[] 53)).cell? (a.add j) = some u := by
      intro j u hu
      have hR := HR.out.up ((Below.refl w.heap.size w).alloc (Nat.le_refl _) (.cells #[] 53))
      have hne : l ≠ [] := by intro e; subst e; simp at hu
      obtain ⟨A, cap', he, h1, h2, h3⟩ := HR.out
      injection he with e1 _ e3
      obtain ⟨b, o, hA, -⟩ := h3 hne
      rw [← e1] at hA
      injection hA with hA
      subst hA
      exact hR.news j u hu
    have HNW := Lib.hid hnews
    have HNL := Lib.hid (stC_len l)
    have HON : Hid (∀ u ∈ l.flatMap stC, u.oneCell' = true) := fun u h => stC_one h
    clear hnews
    go_enter Try.func48, Try.ntmps48
    go_upto_region 2 with (at_builtin; refine wpList_append_own _ rfl _ _ 24 rfl w.heap.size 53 i0 _ 4 32 Try.underlying24 hi hz0 hz1 hz2 rfl (by decide) _ _ _ rfl HOw.out a l.length cap (l.flatMap stC) rfl HNL.out HNW.out HON.out (by unfold maxLen; omega) (by omega) (by simp) ?_; intro v' w1 hown hgrow hnn; have HO1 := Lib.hid hown; have HG1 := Lib.hid hgrow; have HN1 := Lib.hid hnn; clear hown hgrow hnn)
    have hown := HO1.out
    rw [Nat.zero_add, List.nil_append] at hown
    have hb1 : Below w.heap.size w w1 := BA.out.grown HG1.out (by simp) (fun k e => by
      have e' : some w.heap.size = some k := e
      injection e' with e'
      omega)
    obtain ⟨g, c, rfl, h70⟩ := KEY.out v' w1 hown (fun h => by have := (HN1.out.1 h).1; cases this) hb1
    have H70 := Lib.hid h70
    clear hown h70 KEY HO1 HG1 HN1 hb1 HNW HNL HON HOw BA
    go_wp2_with (go_at_call 70; refine H70.out.mono ?_; rintro e w2 ⟨rfl, hfin⟩; have HFIN := Lib.hid hfin; clear hfin)
    exact bodyPost_ret (v := .slice (some ⟨g, 0, none⟩) l.length c) (by simp [results, Try.results48, go_sem]) rfl HFIN.out
end Go.Proofs.Ytomcpgdpjpjioaa
