/- The sorted keys of a set: facts. -/
import Derived.Test.YtjkolebffbeeeaaGreatDoorWh
import Derived.Shelf.SlIter.Keys
import Derived.Shelf.SlIter.Sorted
import Derived.Shelf.SortM.Plain
import Derived.Shelf.SortM.SortNone
import Derived.Ground.GgzProg
import Derived.Ground.SlgmProg
namespace Go.Proofs
open Go.RowKit Go.Maps Go.Sort Go.Shelf
shelf_lay_g SlLaysZ.n7 Ggz 7 at Tryz 78 as Tryz.keysA
shelf_lay_g SlLaysZ.n6 Ggz 6 at Tryz 77 as Tryz.sortedA
shelf_lay_g SlLaysM.n6 Slgm 6 at Tryz 99 as Tryz.sortA
theorem Tryz.sortsA (m : Nat) : AnyZ.SortsIn Tryz.prog Tryz.sortedA_ren Fence.wide m :=
 ⟨fun blk off cap ss W hH hblk hsz => callsIn_wide.2 (AnyM.slices_Sort_string Tryz.sortA blk off cap ss W hH hblk hsz), fun p cap W => callsIn_wide.2 (AnyM.slices_Sort_string_none Tryz.sortA p cap W)⟩
theorem Tryz.keysIn (mb : Option Nat) (W : World) : CallsIn Fence.wide 5 Tryz.prog 78 #[.map mb] W fun e w' => e = .returned (.func (.func 100) #[] #[.pointer (some ⟨W.heap.size, 0, none⟩)]) ∧ w' = W.alloc (.cells #[.map mb] 68) := AnyZ.keys_in Tryz.keysA Fence.wide 5 trivial rfl mb W
theorem Tryz.sortedIn {H : Type} (t b nn : Nat) (D0 : DataW H) (R : Value → Option (DataW H × List MemPlace)) (w : World) (hown : w.ownsMap Tryz.prog 9 R b nn D0) (hmax : Maps.size D0 ≤ maxLen) (hbytes : Maps.size D0 * 16 ≤ 140737488355328) (ht : t < w.heap.size) (hc : w.cell? ⟨t, 0, none⟩ = some (.map (some b))) :
  CallsIn Fence.wide 5 Tryz.prog 77 #[.func (.func 100) #[] #[.pointer (some ⟨t, 0, none⟩)]] w fun e w' => ∃ v ss, e = .returned v ∧ ss.Perm (strKeys D0) ∧ w'.ownsRow w.heap.size 9 1 v ss.length ((ss.mergeSort (fun x y => decide (x ≤ y))).map encStr) ∧ (v = .slice none 0 0 ↔ ss = []) ∧ RowKit.Below w.heap.size w w' := by
 have hseq : SeqGives Fence.wide 2 Tryz.prog 100 #[.pointer (some ⟨t, 0, none⟩)] encStr (fun ss => ss.Perm (strKeys D0)) (Maps.size D0) w :=
  AnyZ.keys_gives (ρ := Tryz.keysA_ren) { Tryz.keysA with } Fence.wide _ trivial rfl (by omega) t b nn D0 _ ht hc hown
 have cS := AnyZ.sorted_in Tryz.sortedA Fence.wide 5 trivial trivial trivial trivial rfl (by omega) (Tryz.sortsA _) (enters_of Tryz.func99 (by kernel_rfl) rfl) 100 #[.pointer (some ⟨t, 0, none⟩)] trivial (enters_of Tryz.func100 (by kernel_rfl) rfl) _ _ hmax hbytes _ hseq
 exact cS
end Go.Proofs
namespace Go.Proofs.YtjkolebffbeeeaaGreatDoor
open Go Go.RowKit Go.Proofs Go.Maps Go.Sort
attribute [local irreducible] J JQ JL JA JD
/-- A list that has no string twice. -/
def dd : List ByteArray → List ByteArray
 | [] => []
 | x :: l => if x ∈ l then dd l else x :: dd l
theorem dd_mem (x : ByteArray) : ∀ l : List ByteArray, x ∈ dd l ↔ x ∈ l
 | [] => Iff.rfl
 | y :: l => by
  unfold dd; split
  ·rename_i h; rw [dd_mem x l, List.mem_cons]; exact ⟨.inr, fun h' => h'.elim (fun e => e ▸ h) id⟩
  ·rw [List.mem_cons, List.mem_cons, dd_mem x l]
theorem dd_nodup : ∀ l : List ByteArray, (dd l).Nodup
 | [] => List.nodup_nil
 | y :: l => by
  unfold dd; split
  ·exact dd_nodup l
  ·rename_i h; exact List.nodup_cons.2 ⟨fun h' => h ((dd_mem y l).1 h'), dd_nodup l⟩
theorem dd_len : ∀ l : List ByteArray, (dd l).length ≤ l.length
 | [] => Nat.le_refl _
 | y :: l => by
  have := dd_len l
  unfold dd; split <;> simp only [List.length_cons] <;> omega
abbrev bl (x : ByteArray) : List UInt8 := x.data.toList
abbrev bs8 (x : List UInt8) : ByteArray := ⟨x.toArray⟩
theorem bl_inj {x y : ByteArray} (h : bl x = bl y) : x = y := by
 cases x with | mk a => cases y with | mk b => simp [bl] at h; rw [h]
/-- Strings that strictly rise and are those of a list. -/
structure SoP (S : List ByteArray) (L : List ByteArray) : Prop where
 up : L.Pairwise (fun x y => ltS x y = true)
 mem : ∀ x, x ∈ L ↔ x ∈ S
 len : L.length ≤ S.length
theorem ltS_lt (x y : List UInt8) : ltS (bs8 x) (bs8 y) = decide (x < y) := by
 unfold ltS; have h := bytesLess_eq x y; simpa [bs8] using h
theorem sort_so {S : List ByteArray} {ss : List (List UInt8)} (h : ss.Perm ((dd S).map bl)) : SoP S ((ss.mergeSort (fun x y => decide (x ≤ y))).map bs8) := by
 have hm : ∀ y : List UInt8, y ∈ ss.mergeSort (fun x y => decide (x ≤ y)) ↔ bs8 y ∈ S := fun y => by
  rw [(List.mergeSort_perm ss _).mem_iff, h.mem_iff, List.mem_map]
  constructor
  ·rintro ⟨z, hz, rfl⟩; exact (dd_mem _ _).1 hz
  ·intro hy; exact ⟨_, (dd_mem _ _).2 hy, by simp [bl]⟩
 have hnd : (ss.mergeSort (fun x y => decide (x ≤ y))).Nodup := ((List.mergeSort_perm ss _).trans h).nodup_iff.2 (List.pairwise_map.2 ((dd_nodup S).imp (fun hne e => hne (bl_inj e))))
 have hso := List.pairwise_mergeSort (le := fun x y : List UInt8 => decide (x ≤ y)) (fun a b c h1 h2 => by simp only [decide_eq_true_eq] at *; exact List.le_trans h1 h2) (fun a b => by simp only [Bool.or_eq_true, decide_eq_true_eq]; exact List.le_total a b) ss
 refine ⟨List.pairwise_map.2 ((hso.and hnd).imp (fun {x y} hxy => ?_)), fun x => ?_, ?_⟩
 ·obtain ⟨h1, h2⟩ := hxy
  rw [ltS_lt, decide_eq_true_eq]
  simp only [decide_eq_true_eq] at h1
  rcases List.le_iff_lt_or_eq.1 h1 with h | h
  ·exact h
  ·exact absurd h h2
 ·rw [List.mem_map]
  constructor
  ·rintro ⟨y, hy, rfl⟩; exact (hm y).1 hy
  ·intro hx; exact ⟨bl x, (hm _).2 hx, rfl⟩
 ·rw [List.length_map, ((List.mergeSort_perm ss _).trans h).length_eq, List.length_map]; exact dd_len S
theorem enc_bs (l : List (List UInt8)) : l.map encStr = (l.map bs8).flatMap eS := by
 induction l with
 | nil => rfl
 | cons a l ih => rw [List.map_cons, ih, List.map_cons, List.flatMap_cons]; rfl
structure SoT where
 L : List ByteArray
 A : Option Addr
 c : Nat
theorem Keys78 (b : Nat) (w : World) : Calls Tryz.prog 78 #[.map (some b)] w (Ret w (fun _ : Nat => True) (fun t => .func (.func 100) #[] #[.pointer (some ⟨t, 0, none⟩)]) (fun t => [cellB t [.map (some b)] 68])) := by
 refine (callsIn_wide.1 (Tryz.keysIn (some b) w)).mono ?_
 rintro e w' ⟨rfl, rfl⟩
 exact ⟨w.heap.size, trivial, rfl, (Wd.start (bs w)).new ((Below.refl _ _).alloc (Nat.le_refl _) _) (World.alloc_heap_new w _) (fun k hk => by obtain rfl : k = w.heap.size := hk; exact ⟨Nat.le_refl _, by simp⟩)⟩
theorem Sorted77 (S : List ByteArray) (t b : Nat) (w : World) (hc : (cellB t [.map (some b)] 68).holds w) (hS : (setB Tryz.prog 9 kS okS b S).holds w) (hok : ∀ s ∈ S, okS s) (hn : S.length ≤ 1000) : Calls Tryz.prog 77 #[.func (.func 100) #[] #[.pointer (some ⟨t, 0, none⟩)]] w (Ret w (fun t : SoT => SoP S t.L) (fun t => .slice t.A t.L.length t.c) (fun t => [ownB 9 1 t.A t.L.length t.c (t.L.flatMap eS)])) := by
 obtain ⟨nn, c, hcn, D, hown, hsz, hD⟩ := hS
 have ht : t < w.heap.size := (Array.getElem?_eq_some_iff.1 (show w.heap[t]? = _ from hc)).1
 have hperm : (strKeys D).Perm ((dd S).map bl) := by
  obtain ⟨es, hDe, hpw, _⟩ := hown.entries (Maps.string_keyed Und.h)
  obtain ⟨es', hD', hko⟩ := hown.keysOf
  obtain rfl : es = es' := by rw [hDe] at hD'; simpa using hD'
  have hstr : ∀ p ∈ es, ∃ x, p.1 = .string x ∧ x.length ≤ maxLen := fun p hp => by obtain ⟨v, hv⟩ := hko p hp; obtain ⟨x, _, hx, hl⟩ := Maps.keyOf_str (Und.h (P := Tryz.prog) (t := 9) (u := .string)) hv; exact ⟨x, hx, hl⟩
  have hhas : ∀ x : List UInt8, x.length ≤ maxLen → Maps.has D (.string x) = decide (bs8 x ∈ S) := fun x hx => by
   have h1 := (hD (bs8 x) (.string x) (by unfold okS ByteArray.size; simpa using hx) (by simp [keyOf, kS, Und.h (P := Tryz.prog) (t := 9) (u := .string), mapKey]; exact hx)).1
   rw [h1]; unfold setG; by_cases h : bs8 x ∈ S <;> simp [h]
  rw [hDe]
  refine (perm_strKeys hpw (fun p hp => by obtain ⟨x, hx, -⟩ := hstr p hp; exact ⟨x, hx⟩) (List.pairwise_map.2 ((dd_nodup S).imp (fun hne e => hne (bl_inj e)))) (fun x => ?_)).symm
  rw [← hDe, List.mem_map]
  constructor
  ·rintro ⟨s, hs, rfl⟩
   have hs' := (dd_mem _ _).1 hs
   rw [hhas _ (by have := hok s hs'; unfold okS at this; rw [ba_len]; exact this)]
   exact decide_eq_true hs'
  ·intro hx
   have hl : x.length ≤ maxLen := by
    rw [hDe, has_eq, List.any_eq_true] at hx
    obtain ⟨p, hp, hs⟩ := hx
    obtain ⟨y, hy, hl⟩ := hstr p hp
    rw [hy] at hs
    have : y = x := by simpa [Lit.sameKey] using hs
    rw [← this]; exact hl
   rw [hhas x hl] at hx
   exact ⟨bs8 x, (dd_mem _ _).2 (of_decide_eq_true hx), by simp [bl]⟩
 have hlen : Maps.size D ≤ 1000 := by
  have h1 : Maps.size D = (strKeys D).length := by
   obtain ⟨es, rfl, -⟩ := hown.keysOf
   exact (List.length_map _).symm
  rw [h1, hperm.length_eq, List.length_map]; have := dd_len S; omega
 refine (callsIn_wide.1 (Tryz.sortedIn t b nn D _ w hown (by unfold maxLen; omega) (by omega) ht (cellB_get hc rfl))).mono ?_
 rintro e w' ⟨v, ss, rfl, hp, hrow, -, hb⟩
 have hso := sort_so (hp.trans hperm)
 rw [enc_bs] at hrow
 have hl : ss.length = ((ss.mergeSort (fun x y => decide (x ≤ y))).map bs8).length := by rw [List.length_map, (List.mergeSort_perm ss _).length_eq]
 rw [hl] at hrow
 obtain ⟨A, cc, rfl, -, hblk⟩ := row_form hrow
 refine ⟨⟨_, A, cc⟩, hso, rfl, (Wd.start (bs w)).new hb (own_base hrow (fun _ _ => Nat.zero_le _)) (fun k hk => ?_)⟩
 exact ⟨(row_ge hrow hk).1, by obtain ⟨o, ho, -⟩ := (row_ge hrow hk).2; exact (Array.getElem?_eq_some_iff.1 ho).1⟩

set_option maxRecDepth 100000 in
set_option maxHeartbeats 4000000 in
theorem facts55 (S : List ByteArray) (wp bp hb gb rb : Nat) (ed : Int) (t : RS) (w : World) (hrec : (recB wp bp hb gb rb ed t).holds w) (hS : (setB Tryz.prog 9 kS okS hb S).holds w) (hok : ∀ s ∈ S, okS s) (hn : S.length ≤ 1000) : Calls Tryz.prog 55 #[.pointer (some ⟨wp, 0, none⟩)] w (Ret w (fun t : SoT => SoP S t.L) (fun t => .slice t.A t.L.length t.c) (fun t => [ownB 9 1 t.A t.L.length t.c (t.L.flatMap eS)])) := by
 refine J_enter (fun _ => False) (vs := [.pointer (some ⟨wp, 0, none⟩)]) (k := 8) (l := [(0, .pointer (some ⟨wp, 0, none⟩))]) Tryz.func55 rfl rfl Tryz.ntmps55 rfl rfl (Wd.start _) ?_
 refine s10 ?_
 refine aV (vOld rfl rfl (fun h => h) (cellB_get hrec rfl)) ?_
 refine aW (oR (fun w hw => Keys78 hb w)) (fun t7 _ => ?_)
 refine aW (oR (fun w hw => Sorted77 S t7 hb w (hw.ok (cellB t7 [.map (some hb)] 68) (by repeat constructor)).1 (setB_up hS hw.bel) hok hn)) (fun t8 ht8 => ?_)
 refine s4 ?_
 refine JR_one rfl (rr_tmp rfl) ?_
 intro w' hw
 exact ⟨t8, ht8, rfl, hw.pick (by repeat constructor)⟩
end Go.Proofs.YtjkolebffbeeeaaGreatDoor
