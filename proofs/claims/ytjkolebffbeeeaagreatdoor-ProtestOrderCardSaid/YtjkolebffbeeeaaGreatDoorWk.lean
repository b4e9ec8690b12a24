/- The sorted keys of a set: facts. -/
import Derived.Test.YtjkolebffbeeeaaGreatDoorWh
import Derived.Shelf.SlIter.Keys
import Derived.Shelf.SlIter.Sorted
import Derived.Shelf.SortM.Plain
import Derived.Shelf.SortM.SortNone
import Derived.Ground.GgzProg
import Derived.Ground.SlgmProg
namespace Go.Proofs
open Go.RowKit Go.Maps Go.Sort Go.Shelf
def Tryz.keysA_ren : Go.Shelf.Ren := ⟨fun | 7 => 78 | 10 => 100 | n => n, fun | 23 => 68 | 26 => 9 | 3 => 4 | 28 => 112 | 0 => 0 | 27 => 111 | 33 => 65 | 4 => 4 | n => n, fun | n => n⟩
theorem Tryz.keysA : Go.Proofs.SlLaysZ.n7 Tryz.prog Tryz.keysA_ren := {
  mixed := by kernel_rfl
  f7 := ⟨Tryz.f78.name, by decide, Tryz.func78.trans (congrArg some (by kernel_rfl))⟩
  f10 := ⟨Tryz.f100.name, by decide, Tryz.func100.trans (congrArg some (by kernel_rfl))⟩
  t0 := Tryz.underlying0
  a0 := Tryz.isAgg0
  z0 := Tryz.sizeOf0
  v0 := Tryz.zeroValue0
  t4 := Tryz.underlying4
  a4 := Tryz.isAgg4
  z4 := Tryz.sizeOf4
  v4 := Tryz.zeroValue4
  t23 := Tryz.underlying68
  a23 := Tryz.isAgg68
  z23 := Tryz.sizeOf68
  v23 := Tryz.zeroValue68
  t26 := Tryz.underlying9
  a26 := Tryz.isAgg9
  z26 := Tryz.sizeOf9
  v26 := Tryz.zeroValue9
  t27 := Tryz.underlying111
  a27 := Tryz.isAgg111
  z27 := Tryz.sizeOf111
  v27 := Tryz.zeroValue111
  t28 := Tryz.underlying112
  a28 := Tryz.isAgg112
  z28 := Tryz.sizeOf112
  v28 := Tryz.zeroValue112
  t33 := Tryz.underlying65
  a33 := Tryz.isAgg65
  z33 := Tryz.sizeOf65
  v33 := Tryz.zeroValue65 }
def Tryz.sortedA_ren : Go.Shelf.Ren := ⟨fun | 6 => 77 | 8 => 98 | 9 => 99 | 11 => 108 | 13 => 110 | 12 => 109 | 23 => 124 | 24 => 125 | 14 => 115 | 15 => 116 | 16 => 117 | 17 => 118 | 18 => 119 | 19 => 120 | 20 => 121 | 21 => 122 | 22 => 123 | 25 => 130 | 26 => 131 | 27 => 132 | 28 => 133 | 29 => 134 | 30 => 135 | 31 => 137 | n => n, fun | 26 => 9 | 28 => 112 | 24 => 23 | 0 => 0 | 3 => 3 | 37 => 140 | 48 => 151 | 50 => 153 | 4 => 4 | 40 => 144 | 39 => 143 | 45 => 117 | 5 => 5 | 9 => 9 | 51 => 162 | 55 => 166 | 57 => 168 | 58 => 169 | 33 => 65 | n => n, fun | n => n⟩
theorem Tryz.sortedA : Go.Proofs.SlLaysZ.n6 Tryz.prog Tryz.sortedA_ren := {
  mixed := by kernel_rfl
  f6 := ⟨Tryz.f77.name, by decide, Tryz.func77.trans (congrArg some (by kernel_rfl))⟩
  f8 := ⟨Tryz.f98.name, by decide, Tryz.func98.trans (congrArg some (by kernel_rfl))⟩
  f11 := ⟨Tryz.f108.name, by decide, Tryz.func108.trans (congrArg some (by kernel_rfl))⟩
  t0 := Tryz.underlying0
  a0 := Tryz.isAgg0
  z0 := Tryz.sizeOf0
  v0 := Tryz.zeroValue0
  t24 := Tryz.underlying23
  a24 := Tryz.isAgg23
  z24 := Tryz.sizeOf23
  v24 := Tryz.zeroValue23
  t26 := Tryz.underlying9
  a26 := Tryz.isAgg9
  z26 := Tryz.sizeOf9
  v26 := Tryz.zeroValue9
  t28 := Tryz.underlying112
  a28 := Tryz.isAgg112
  z28 := Tryz.sizeOf112
  v28 := Tryz.zeroValue112
  i26 := by kernel_rfl }
def Tryz.sortA_ren : Go.Shelf.Ren := ⟨fun | 6 => 99 | 8 => 110 | 9 => 109 | 19 => 124 | 20 => 125 | 21 => 115 | 22 => 116 | 23 => 117 | 24 => 118 | 25 => 119 | 26 => 120 | 27 => 121 | 28 => 122 | 29 => 123 | 36 => 130 | 31 => 131 | 32 => 132 | 37 => 133 | 38 => 134 | 39 => 135 | 41 => 137 | n => n, fun | 27 => 23 | 29 => 9 | 3 => 3 | 32 => 140 | 26 => 23 | 0 => 0 | 44 => 151 | 46 => 153 | 4 => 4 | 36 => 144 | 35 => 143 | 41 => 117 | 5 => 5 | 9 => 9 | 53 => 162 | 57 => 166 | 63 => 168 | 64 => 169 | n => n, fun | n => n⟩
theorem Tryz.sortA : Go.Proofs.SlLaysM.n6 Tryz.prog Tryz.sortA_ren := {
  mixed := by kernel_rfl
  f6 := ⟨Tryz.f99.name, by decide, Tryz.func99.trans (congrArg some (by kernel_rfl))⟩
  f8 := Tryz.func110.trans (congrArg some (by kernel_rfl))
  f9 := ⟨Tryz.f109.name, by decide, Tryz.func109.trans (congrArg some (by kernel_rfl))⟩
  f19 := Tryz.func124.trans (congrArg some (by kernel_rfl))
  f20 := Tryz.func125.trans (congrArg some (by kernel_rfl))
  f21 := ⟨Tryz.f115.name, by decide, Tryz.func115.trans (congrArg some (by kernel_rfl))⟩
  f22 := ⟨Tryz.f116.name, by decide, Tryz.func116.trans (congrArg some (by kernel_rfl))⟩
  f23 := ⟨Tryz.f117.name, by decide, Tryz.func117.trans (congrArg some (by kernel_rfl))⟩
  f24 := ⟨Tryz.f118.name, by decide, Tryz.func118.trans (congrArg some (by kernel_rfl))⟩
  f25 := ⟨Tryz.f119.name, by decide, Tryz.func119.trans (congrArg some (by kernel_rfl))⟩
  f26 := ⟨Tryz.f120.name, by decide, Tryz.func120.trans (congrArg some (by kernel_rfl))⟩
  f27 := ⟨Tryz.f121.name, by decide, Tryz.func121.trans (congrArg some (by kernel_rfl))⟩
  f28 := ⟨Tryz.f122.name, by decide, Tryz.func122.trans (congrArg some (by kernel_rfl))⟩
  f29 := ⟨Tryz.f123.name, by decide, Tryz.func123.trans (congrArg some (by kernel_rfl))⟩
  f31 := Tryz.func131.trans (congrArg some (by kernel_rfl))
  f32 := Tryz.func132.trans (congrArg some (by kernel_rfl))
  f36 := ⟨Tryz.f130.name, by decide, Tryz.func130.trans (congrArg some (by kernel_rfl))⟩
  f37 := ⟨Tryz.f133.name, by decide, Tryz.func133.trans (congrArg some (by kernel_rfl))⟩
  f38 := ⟨Tryz.f134.name, by decide, Tryz.func134.trans (congrArg some (by kernel_rfl))⟩
  f39 := ⟨Tryz.f135.name, by decide, Tryz.func135.trans (congrArg some (by kernel_rfl))⟩
  f41 := ⟨Tryz.f137.name, by decide, Tryz.func137.trans (congrArg some (by kernel_rfl))⟩
  t0 := Tryz.underlying0
  a0 := Tryz.isAgg0
  z0 := Tryz.sizeOf0
  v0 := Tryz.zeroValue0
  t3 := Tryz.underlying3
  a3 := Tryz.isAgg3
  z3 := Tryz.sizeOf3
  v3 := Tryz.zeroValue3
  t4 := Tryz.underlying4
  a4 := Tryz.isAgg4
  z4 := Tryz.sizeOf4
  v4 := Tryz.zeroValue4
  t5 := Tryz.underlying5
  a5 := Tryz.isAgg5
  z5 := Tryz.sizeOf5
  v5 := Tryz.zeroValue5
  t9 := Tryz.underlying9
  a9 := Tryz.isAgg9
  z9 := Tryz.sizeOf9
  v9 := Tryz.zeroValue9
  t26 := Tryz.underlying23
  a26 := Tryz.isAgg23
  z26 := Tryz.sizeOf23
  v26 := Tryz.zeroValue23
  t27 := Tryz.underlying23
  a27 := Tryz.isAgg23
  z27 := Tryz.sizeOf23
  v27 := Tryz.zeroValue23
  t29 := Tryz.underlying9
  a29 := Tryz.isAgg9
  z29 := Tryz.sizeOf9
  v29 := Tryz.zeroValue9
  t32 := Tryz.underlying140
  a32 := Tryz.isAgg140
  z32 := Tryz.sizeOf140
  v32 := Tryz.zeroValue140
  t35 := Tryz.underlying143
  a35 := Tryz.isAgg143
  z35 := Tryz.sizeOf143
  v35 := Tryz.zeroValue143
  t36 := Tryz.underlying144
  a36 := Tryz.isAgg144
  z36 := Tryz.sizeOf144
  v36 := Tryz.zeroValue144
  t41 := Tryz.underlying117
  a41 := Tryz.isAgg117
  z41 := Tryz.sizeOf117
  v41 := Tryz.zeroValue117
  t44 := Tryz.underlying151
  a44 := Tryz.isAgg151
  z44 := Tryz.sizeOf151
  v44 := Tryz.zeroValue151
  t46 := Tryz.underlying153
  a46 := Tryz.isAgg153
  z46 := Tryz.sizeOf153
  v46 := Tryz.zeroValue153
  t53 := Tryz.underlying162
  a53 := Tryz.isAgg162
  z53 := Tryz.sizeOf162
  v53 := Tryz.zeroValue162
  t57 := Tryz.underlying166
  a57 := Tryz.isAgg166
  z57 := Tryz.sizeOf166
  v57 := Tryz.zeroValue166
  t63 := Tryz.underlying168
  a63 := Tryz.isAgg168
  z63 := Tryz.sizeOf168
  v63 := Tryz.zeroValue168
  t64 := Tryz.underlying169
  a64 := Tryz.isAgg169
  z64 := Tryz.sizeOf169
  v64 := Tryz.zeroValue169 }
theorem Tryz.sortsA (m : Nat) : AnyZ.SortsIn Tryz.prog Tryz.sortedA_ren Fence.wide m :=
 ⟨fun blk off cap ss W hH hblk hsz => callsIn_wide.2 (AnyM.slices_Sort_string Tryz.sortA blk off cap ss W hH hblk hsz), fun p cap W => callsIn_wide.2 (AnyM.slices_Sort_string_none Tryz.sortA p cap W)⟩
theorem Tryz.keysIn (mb : Option Nat) (W : World) : CallsIn Fence.wide 5 Tryz.prog 78 #[.map mb] W fun e w' => e = .returned (.func (.func 100) #[] #[.pointer (some ⟨W.heap.size, 0, none⟩)]) ∧ w' = W.alloc (.cells #[.map mb] 68) := AnyZ.keys_in Tryz.keysA Fence.wide 5 trivial rfl mb W
theorem Tryz.sortedIn {H : Type} (t b nn : Nat) (D0 : DataW H) (R : Value → Option (DataW H × List MemPlace)) (w : World) (hown : w.ownsMap Tryz.prog 9 R b nn D0) (hmax : Maps.size D0 ≤ maxLen) (hbytes : Maps.size D0 * 16 ≤ 140737488355328) (ht : t < w.heap.size) (hc : w.cell? ⟨t, 0, none⟩ = some (.map (some b))) :
  CallsIn Fence.wide 5 Tryz.prog 77 #[.func (.func 100) #[] #[.pointer (some ⟨t, 0, none⟩)]] w fun e w' => ∃ v ss, e = .returned v ∧ ss.Perm (strKeys D0) ∧ w'.ownsRow w.heap.size 9 1 v ss.length ((ss.mergeSort (fun x y => decide (x ≤ y))).map encStr) ∧ (v = .slice none 0 0 ↔ ss = []) ∧ RowKit.Below w.heap.size w w' := by
 have hseq : SeqGives Fence.wide 2 Tryz.prog 100 #[.pointer (some ⟨t, 0, none⟩)] encStr (fun ss => ss.Perm (strKeys D0)) (Maps.size D0) w :=
  AnyZ.keys_gives (ρ := Tryz.keysA_ren) { Tryz.keysA with } Fence.wide _ trivial rfl (by omega) t b nn D0 _ ht hc hown
 have cS := AnyZ.sorted_in Tryz.sortedA Fence.wide 5 trivial trivial trivial trivial rfl (by omega) (Tryz.sortsA _) (enters_of Tryz.func99 (by kernel_rfl) rfl) 100 #[.pointer (some ⟨t, 0, none⟩)] trivial (enters_of Tryz.func100 (by kernel_rfl) rfl) _ _ hmax hbytes _ hseq
 exact cS
end Go.Proofs
namespace Go.Proofs.YtjkolebffbeeeaaGreatDoor
open Go Go.RowKit Go.Proofs Go.Maps Go.Sort
attribute [local irreducible] J JQ JL JA JD
/-- A list that has no string twice. -/
def dd : List ByteArray → List ByteArray
 | [] => []
 | x :: l => if x ∈ l then dd l else x :: dd l
theorem dd_mem (x : ByteArray) : ∀ l : List ByteArray, x ∈ dd l ↔ x ∈ l
 | [] => Iff.rfl
 | y :: l => by
  unfold dd; split
  ·rename_i h; rw [dd_mem x l, List.mem_cons]; exact ⟨.inr, fun h' => h'.elim (fun e => e ▸ h) id⟩
  ·rw [List.mem_cons, List.mem_cons, dd_mem x l]
theorem dd_nodup : ∀ l : List ByteArray, (dd l).Nodup
 | [] => List.nodup_nil
 | y :: l => by
  unfold dd; split
  ·exact dd_nodup l
  ·rename_i h; exact List.nodup_cons.2 ⟨fun h' => h ((dd_mem y l).1 h'), dd_nodup l⟩
theorem dd_len : ∀ l : List ByteArray, (dd l).length ≤ l.length
 | [] => Nat.le_refl _
 | y :: l => by
  have := dd_len l
  unfold dd; split <;> simp only [List.length_cons] <;> omega
abbrev bl (x : ByteArray) : List UInt8 := x.data.toList
abbrev bs8 (x : List UInt8) : ByteArray := ⟨x.toArray⟩
theorem bl_inj {x y : ByteArray} (h : bl x = bl y) : x = y := by
 cases x with | mk a => cases y with | mk b => simp [bl] at h; rw [h]
/-- Strings that strictly rise and are those of a list. -/
structure SoP (S : List ByteArray) (L : List ByteArray) : Prop where
 up : L.Pairwise (fun x y => ltS x y = true)
 mem : ∀ x, x ∈ L ↔ x ∈ S
 len : L.length ≤ S.length
theorem ltS_lt (x y : List UInt8) : ltS (bs8 x) (bs8 y) = decide (x < y) := by
 unfold ltS; have h := bytesLess_eq x y; simpa [bs8] using h
theorem sort_so {S : List ByteArray} {ss : List (List UInt8)} (h : ss.Perm ((dd S).map bl)) : SoP S ((ss.mergeSort (fun x y => decide (x ≤ y))).map bs8) := by
 have hm : ∀ y : List UInt8, y ∈ ss.mergeSort (fun x y => decide (x ≤ y)) ↔ bs8 y ∈ S := fun y => by
  rw [(List.mergeSort_perm ss _).mem_iff, h.mem_iff, List.mem_map]
  constructor
  ·rintro ⟨z, hz, rfl⟩; exact (dd_mem _ _).1 hz
  ·intro hy; exact ⟨_, (dd_mem _ _).2 hy, by simp [bl]⟩
 have hnd : (ss.mergeSort (fun x y => decide (x ≤ y))).Nodup := ((List.mergeSort_perm ss _).trans h).nodup_iff.2 (List.pairwise_map.2 ((dd_nodup S).imp (fun hne e => hne (bl_inj e))))
 have hso := List.pairwise_mergeSort (le := fun x y : List UInt8 => decide (x ≤ y)) (fun a b c h1 h2 => by simp only [decide_eq_true_eq] at *; exact List.le_trans h1 h2) (fun a b => by simp only [Bool.or_eq_true, decide_eq_true_eq]; exact List.le_total a b) ss
 refine ⟨List.pairwise_map.2 ((hso.and hnd).imp (fun {x y} hxy => ?_)), fun x => ?_, ?_⟩
 ·obtain ⟨h1, h2⟩ := hxy
  rw [ltS_lt, decide_eq_true_eq]
  simp only [decide_eq_true_eq] at h1
  rcases List.le_iff_lt_or_eq.1 h1 with h | h
  ·exact h
  ·exact absurd h h2
 ·rw [List.mem_map]
  constructor
  ·rintro ⟨y, hy, rfl⟩; exact (hm y).1 hy
  ·intro hx; exact ⟨bl x, (hm _).2 hx, rfl⟩
 ·rw [List.length_map, ((List.mergeSort_perm ss _).trans h).length_eq, List.length_map]; exact dd_len S
theorem enc_bs (l : List (List UInt8)) : l.map encStr = (l.map bs8).flatMap eS := by
 induction l with
 | nil => rfl
 | cons a l ih => rw [List.map_cons, ih, List.map_cons, List.flatMap_cons]; rfl
structure SoT where
 L : List ByteArray
 A : Option Addr
 c : Nat
theorem Keys78 (b : Nat) (w : World) : Calls Tryz.prog 78 #[.map (some b)] w (Ret w (fun _ : Nat => True) (fun t => .func (.func 100) #[] #[.pointer (some ⟨t, 0, none⟩)]) (fun t => [cellB t [.map (some b)] 68])) := by
 refine (callsIn_wide.1 (Tryz.keysIn (some b) w)).mono ?_
 rintro e w' ⟨rfl, rfl⟩
 exact ⟨w.heap.size, trivial, rfl, (Wd.start (bs w)).new ((Below.refl _ _).alloc (Nat.le_refl _) _) (World.alloc_heap_new w _) (fun k hk => by obtain rfl : k = w.heap.size := hk; exact ⟨Nat.le_refl _, by simp⟩)⟩
theorem Sorted77 (S : List ByteArray) (t b : Nat) (w : World) (hc : (cellB t [.map (some b)] 68).holds w) (hS : (setB Tryz.prog 9 kS okS b S).holds w) (hok : ∀ s ∈ S, okS s) (hn : S.length ≤ 1000) : Calls Tryz.prog 77 #[.func (.func 100) #[] #[.pointer (some ⟨t, 0, none⟩)]] w (Ret w (fun t : SoT => SoP S t.L) (fun t => .slice t.A t.L.length t.c) (fun t => [ownB 9 1 t.A t.L.length t.c (t.L.flatMap eS)])) := by
 obtain ⟨nn, c, hcn, D, hown, hsz, hD⟩ := hS
 have ht : t < w.heap.size := (Array.getElem?_eq_some_iff.1 (show w.heap[t]? = _ from hc)).1
 have hperm : (strKeys D).Perm ((dd S).map bl) := by
  obtain ⟨es, hDe, hpw, _⟩ := hown.entries (Maps.string_keyed Und.h)
  obtain ⟨es', hD', hko⟩ := hown.keysOf
  obtain rfl : es = es' := by rw [hDe] at hD'; simpa using hD'
  have hstr : ∀ p ∈ es, ∃ x, p.1 = .string x ∧ x.length ≤ maxLen := fun p hp => by obtain ⟨v, hv⟩ := hko p hp; obtain ⟨x, _, hx, hl⟩ := Maps.keyOf_str (Und.h (P := Tryz.prog) (t := 9) (u := .string)) hv; exact ⟨x, hx, hl⟩
  have hhas : ∀ x : List UInt8, x.length ≤ maxLen → Maps.has D (.string x) = decide (bs8 x ∈ S) := fun x hx => by
   have h1 := (hD (bs8 x) (.string x) (by unfold okS ByteArray.size; simpa using hx) (by simp [keyOf, kS, Und.h (P := Tryz.prog) (t := 9) (u := .string), mapKey]; exact hx)).1
   rw [h1]; unfold setG; by_cases h : bs8 x ∈ S <;> simp [h]
  rw [hDe]
  refine (perm_strKeys hpw (fun p hp => by obtain ⟨x, hx, -⟩ := hstr p hp; exact ⟨x, hx⟩) (List.pairwise_map.2 ((dd_nodup S).imp (fun hne e => hne (bl_inj e)))) (fun x => ?_)).symm
  rw [← hDe, List.mem_map]
  constructor
  ·rintro ⟨s, hs, rfl⟩
   have hs' := (dd_mem _ _).1 hs
   rw [hhas _ (by have := hok s hs'; unfold okS at this; rw [ba_len]; exact this)]
   exact decide_eq_true hs'
  ·intro hx
   have hl : x.length ≤ maxLen := by
    rw [hDe, has_eq, List.any_eq_true] at hx
    obtain ⟨p, hp, hs⟩ := hx
    obtain ⟨y, hy, hl⟩ := hstr p hp
    rw [hy] at hs
    have : y = x := by simpa [Lit.sameKey] using hs
    rw [← this]; exact hl
   rw [hhas x hl] at hx
   exact ⟨bs8 x, (dd_mem _ _).2 (of_decide_eq_true hx), by simp [bl]⟩
 have hlen : Maps.size D ≤ 1000 := by
  have h1 : Maps.size D = (strKeys D).length := by
   obtain ⟨es, rfl, -⟩ := hown.keysOf
   exact (List.length_map _).symm
  rw [h1, hperm.length_eq, List.length_map]; have := dd_len S; omega
 refine (callsIn_wide.1 (Tryz.sortedIn t b nn D _ w hown (by unfold maxLen; omega) (by omega) ht (cellB_get hc rfl))).mono ?_
 rintro e w' ⟨v, ss, rfl, hp, hrow, -, hb⟩
 have hso := sort_so (hp.trans hperm)
 rw [enc_bs] at hrow
 have hl : ss.length = ((ss.mergeSort (fun x y => decide (x ≤ y))).map bs8).length := by rw [List.length_map, (List.mergeSort_perm ss _).length_eq]
 rw [hl] at hrow
 obtain ⟨A, cc, rfl, -, hblk⟩ := row_form hrow
 refine ⟨⟨_, A, cc⟩, hso, rfl, (Wd.start (bs w)).new hb (own_base hrow (fun _ _ => Nat.zero_le _)) (fun k hk => ?_)⟩
 exact ⟨(row_ge hrow hk).1, by obtain ⟨o, ho, -⟩ := (row_ge hrow hk).2; exact (Array.getElem?_eq_some_iff.1 ho).1⟩

set_option maxRecDepth 100000 in
set_option maxHeartbeats 4000000 in
theorem facts55 (S : List ByteArray) (wp bp hb gb rb : Nat) (ed : Int) (t : RS) (w : World) (hrec : (recB wp bp hb gb rb ed t).holds w) (hS : (setB Tryz.prog 9 kS okS hb S).holds w) (hok : ∀ s ∈ S, okS s) (hn : S.length ≤ 1000) : Calls Tryz.prog 55 #[.pointer (some ⟨wp, 0, none⟩)] w (Ret w (fun t : SoT => SoP S t.L) (fun t => .slice t.A t.L.length t.c) (fun t => [ownB 9 1 t.A t.L.length t.c (t.L.flatMap eS)])) := by
 refine J_enter (fun _ => False) (vs := [.pointer (some ⟨wp, 0, none⟩)]) (k := 8) (l := [(0, .pointer (some ⟨wp, 0, none⟩))]) Tryz.func55 rfl rfl Tryz.ntmps55 rfl rfl (Wd.start _) ?_
 refine s10 ?_
 refine aV (vOld rfl rfl (fun h => h) (cellB_get hrec rfl)) ?_
 refine aW (oR (fun w hw => Keys78 hb w)) (fun t7 _ => ?_)
 refine aW (oR (fun w hw => Sorted77 S t7 hb w (hw.ok (cellB t7 [.map (some hb)] 68) (by repeat constructor)).1 (setB_up hS hw.bel) hok hn)) (fun t8 ht8 => ?_)
 refine s4 ?_
 refine JR_one rfl (rr_tmp rfl) ?_
 intro w' hw
 exact ⟨t8, ht8, rfl, hw.pick (by repeat constructor)⟩
end Go.Proofs.YtjkolebffbeeeaaGreatDoor
