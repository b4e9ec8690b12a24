/- Layers of the proofs, joined: Rq Rr Rs Rt Ru Rv Rw Rx Ry Rz Ta Tb Tc Td. -/
import Derived.Test.YtmcpnoailbmkkaaGreatDoorPk3
/- Layer 7: sorted. -/
namespace Go.Proofs.YtmcpnoailbmkkaaGreatDoor
open Go Go.RowKit Go.Proofs Go.Shelf Go.Sort
/-- A stone with a valid name. -/
structure SN where
 st : St
 ok : bnd st
instance : Inhabited SN := ⟨⟨⟨0, 0, 0, 0⟩, by unfold bnd; decide⟩⟩
def encS (x : SN) : List Value := eT x.1
def cfS (x y : SN) : Int := kyS x.1 - kyS y.1
set_option maxHeartbeats 1000000 in
theorem closure_sN (x y : SN) (W : World) : Calls Tryz.prog 120 #[.agg (encS x).toArray, .agg (encS y).toArray] W fun e w' => e = .returned (.int .i64 (cfS x y)) ∧ ∃ q os', w' = grow (W.drewN q) os' := by
 obtain ⟨⟨t1, n1, x1, y1⟩, ⟨⟨a1, a2⟩, a3, a4⟩⟩ := x
 obtain ⟨⟨t2, n2, x2, y2⟩, ⟨⟨b1, b2⟩, b3, b4⟩⟩ := y
 simp only at a1 a2 a3 a4 b1 b2 b3 b4
 show Calls Tryz.prog 120 #[Stv ⟨t1, n1, x1, y1⟩, Stv ⟨t2, n2, x2, y2⟩] W _
 have e : cfS ⟨⟨t1, n1, x1, y1⟩, ⟨⟨a1, a2⟩, a3, a4⟩⟩ ⟨⟨t2, n2, x2, y2⟩, ⟨⟨b1, b2⟩, b3, b4⟩⟩ = (t1 - t2) * 8 + n1 - n2 := by
  show (t1 * 8 + n1) - (t2 * 8 + n2) = _
  omega
 rw [e]
 clear e
 go_enter Tryz.func120, Tryz.ntmps120
 go_wp2_with fail
 go_ret
 exact ⟨rfl, 0, _, by rw [alloc_eq_grow, alloc_eq_grow, grow_grow]; rfl⟩
theorem lt_sN (x y : SN) : ltOf cfS x y = decide (kyS x.1 < kyS y.1) := by
 unfold ltOf cfS
 by_cases h : kyS x.1 < kyS y.1
 ·simp [h]; omega
 ·simp [h]; omega
theorem swo_sN : SWO (ltOf cfS) where
 irrefl x := by rw [lt_sN]; simp
 trans x y z h1 h2 := by rw [lt_sN] at *; simp at *; omega
 ntrans x y z h1 h2 := by rw [lt_sN] at *; simp at *; omega
theorem grown_sN {w : World} {g n : Nat} {os : Array Obj} (d : Array SN) : w.grownBy (sortWorldK encS 4 w g 0 n d os) (some g) := by
 refine ⟨rfl, rfl, rfl, by simp [sortWorldK, putRowK, putRow, mapBlock, grow, Sort.ahead], fun k hk hne => ?_⟩
 unfold sortWorldK putRowK
 rw [heap_grow_old _ _ (by simpa [putRow, mapBlock, Sort.ahead] using hk)]
 have : g ≠ k := fun e => hne (by rw [e])
 simp [putRow, mapBlock, Sort.ahead, Array.getElem?_modify, this]
/-- Stones with valid names, as the sort's elements. -/
def toSN (l : List St) (h : ∀ s ∈ l, bnd s) : List SN := l.attach.map fun s => ⟨s.1, h s.1 s.2⟩
theorem toSN_val (l : List St) (h : ∀ s ∈ l, bnd s) : (toSN l h).map SN.st = l := by
 unfold toSN
 rw [List.map_map]
 show l.attach.map (fun s => s.1) = l
 exact List.attach_map_subtype_val l
theorem flat_sN (d : Array SN) (l : List St) (hd : d.toList.map SN.st = l) (j : Nat) (hj : j < l.length * 4) : (l.flatMap eT)[j]? = some (flatK encS 4 d)[j]! := by
 have hs : d.size = l.length := by rw [← hd]; simp
 rw [get_flatK _ _ _ _ (by rw [hs]; exact hj)]
 have hq : j / 4 < l.length := by omega
 have hqd : j / 4 < d.size := by omega
 have h1 := flat_get ET hq (j % 4) (by omega)
 have e : j / 4 * 4 + j % 4 = j := by omega
 rw [e] at h1
 have h2 : (d[j / 4]!).1 = l[j / 4]'hq := by
  rw [getElem!_pos d (j / 4) hqd]
  have : (d.toList.map SN.st)[j / 4]? = l[j / 4]? := by rw [hd]
  rw [List.getElem?_map, Array.getElem?_toList, Array.getElem?_eq_getElem hqd, List.getElem?_eq_getElem hq] at this
  simpa using this
 rw [h1]
 show _ = some (eT (d[j / 4]!).1)[j % 4]!
 rw [h2, List.getElem!_eq_getElem?_getD]
 have hlt : j % 4 < (eT (l[j / 4]'hq)).length := by rw [ET.len]; omega
 rw [List.getElem?_eq_getElem hlt]; rfl
theorem row_sN {w : World} {g cap m : Nat} {d d' : Array SN} {l l' : List St} {os : Array Obj} (h : w.ownsRow 0 43 4 (.slice (some ⟨g, 0, none⟩) l.length cap) l.length (l.flatMap eT)) (hd : d.toList.map SN.st = l) (hd' : d'.toList.map SN.st = l') (hs : d'.size = d.size) :
  HoldsK encS 4 w g 0 d ∧ (sortWorldK encS 4 w g 0 m d' os).ownsRow 0 43 4 (.slice (some ⟨g, 0, none⟩) l'.length cap) l'.length (l'.flatMap eT) := by
 have hn : d.size = l.length := by rw [← hd]; simp
 have hn' : d'.size = l'.length := by rw [← hd']; simp
 have hH : HoldsK encS 4 w g 0 d := by
  intro j hj
  rw [size_flatK, hn] at hj
  rw [Nat.zero_add]
  have hlen := flat_len ET l
  have h1 := flat_sN d l hd j hj
  rw [List.getElem?_eq_getElem (by omega)] at h1
  refine ⟨?_, h.frozenAt j⟩
  rw [h.cellAt j hj, List.getElem?_eq_getElem (by omega), h1]; rfl
 refine ⟨hH, ?_⟩
 obtain ⟨h1, h2⟩ := h
 rcases h2 with ⟨h2, -⟩ | ⟨g', cap', cur, e, -, hg, hc1, hc2, hc3, hc4⟩
 ·cases h2
 injection e with e1 _ e3
 injection e1 with e1
 injection e1 with e1
 subst e1 e3
 have hgl := (Array.getElem?_eq_some_iff.1 hg).1
 have hheap : (sortWorldK encS 4 w g 0 m d' os).heap[g]? = some (.cells (putCells id 0 (flatK encS 4 d') cur) 43 (0, 0)) := by
  unfold sortWorldK putRowK
  rw [heap_grow_old _ _ (by simpa [putRow, mapBlock, Sort.ahead] using hgl)]
  simp [putRow, mapBlock, Sort.ahead, Array.getElem?_modify, hg, onCells]
 refine ⟨by rw [flat_len ET], .inr ⟨g, cap, _, rfl, Nat.zero_le _, hheap, by omega, hc2, by simp [putCells, hc3], ?_⟩⟩
 apply List.ext_getElem?
 intro j
 rw [List.getElem?_take]
 by_cases hj : j < l'.length * 4
 ·rw [if_pos hj, flat_sN d' l' hd' j hj]
  have hjc : j < cur.size := by omega
  simp [putCells, hjc, hn', hj]
 ·rw [if_neg hj, List.getElem?_eq_none (by rw [flat_len ET]; omega)]
theorem sorted_sN {l : List St} {d d' : Array SN} (hd : d.toList.map SN.st = l) (hp : Go.Sort.PermIn 0 d.size d d') (hs : Go.Sort.SortedIn (ltOf cfS) 0 d.size d') :
  (d'.toList.map SN.st).Perm l ∧ (d'.toList.map SN.st).Pairwise (fun a b => kyS a ≤ kyS b) := by
 obtain ⟨h1, -, h2⟩ := hp
 constructor
 ·rw [← hd]
  have e1 : d'.extract 0 d.size = d' := by rw [← h1]; exact Array.extract_size
  have e2 : d.extract 0 d.size = d := Array.extract_size
  rw [e1, e2] at h2
  exact h2.map _
 ·rw [List.pairwise_map, List.pairwise_iff_getElem]
  intro i j hi hj hij
  have hi' : i < d'.size := by simpa using hi
  have hj' : j < d'.size := by simpa using hj
  have h3 := hs i j (Nat.zero_le _) hij (by omega)
  rw [lt_sN] at h3
  rw [getElem!_pos d' j hj', getElem!_pos d' i hi'] at h3
  simp only [decide_eq_false_iff_not] at h3
  simp only [Array.getElem_toList]
  omega
theorem SortFuncT (l : List St) (g c : Nat) (w : World) (hA : (ownB 43 4 (some ⟨g, 0, none⟩) l.length c (l.flatMap eT)).holds w) (hAf : ∀ b, (ownB 43 4 (some ⟨g, 0, none⟩) l.length c (l.flatMap eT)).foot b → b < w.heap.size) (hb : ∀ s ∈ l, bnd s) (hd : dis l) (hl : l.length ≤ 1000) :
  Calls Tryz.prog 119 #[.slice (some ⟨g, 0, none⟩) l.length c, .func (.func 120) #[] #[]] w (RetM (ownB 43 4 (some ⟨g, 0, none⟩) l.length c (l.flatMap eT)) (fun _ : Unit => True) (fun _ => .tuple #[]) (fun _ => ownB 43 4 (some ⟨g, 0, none⟩) (srt l).length c ((srt l).flatMap eT)) w) := by
 have hA' : w.ownsRow 0 43 4 (.slice (some ⟨g, 0, none⟩) l.length c) l.length (l.flatMap eT) := hA
 have hst := Wd.startM hA hAf
 rcases hA'.2 with ⟨h1, -⟩ | ⟨g', cap, cur, h1, -, hg, hlc, hcm, -⟩
 ·cases h1
 injection h1 with e1 _ e3
 injection e1 with e1
 injection e1 with e1
 subst e1 e3
 obtain ⟨d, hdd⟩ : ∃ d : Array SN, d.toList.map SN.st = l := ⟨(toSN l hb).toArray, toSN_val l hb⟩
 have hds : d.size = l.length := by rw [← hdd]; simp
 have eg : ∀ args w, (callFunc 120 args).run Tryz.prog w = .ok (.enter 120 args) w := enters_of Tryz.func120 (by kernel_rfl) rfl
 have hgl := (Array.getElem?_eq_some_iff.1 hg).1
 have h70 := AnyQ.slices_SortFunc Tryz.sortSt 4 (fun w => by kernel_rfl) (fun w => by kernel_rfl) encS (fun _ => rfl) (fun x v hv => ET.one x.1 v hv) cfS swo_sN 120 #[] g 0 c d w eg (fun _ _ _ _ x y => closure_sN x y _) (row_sN (m := 0) (os := #[]) hA' hdd hdd rfl).1 hgl (by omega)
 rw [hds] at h70
 refine h70.mono ?_
 rintro e w' ⟨rfl, d', n, os, hp, hs, rfl⟩
 have hsz : d'.size = d.size := hp.1
 rw [← hds] at hp hs
 obtain ⟨o1, o2⟩ := sorted_sN hdd hp hs
 have e := srt_uniq hb hd o1 o2
 have hrow := (row_sN (m := n) (os := os) hA' hdd e hsz).2
 have hgr := grown_sN (w := w) (g := g) (n := n) (os := os) d'
 refine ⟨(), trivial, rfl, hst.chg (At.here _) rfl rfl ⟨hgr.os, hgr.tape, hgr.output, hgr.size, fun b hb hn => hgr.block b hb (fun e => hn (by injection e with e; rw [← e]; rfl))⟩ hrow (fun b hb => ?_)⟩
 obtain rfl : g = b := by simpa [ownB, Value.ownBlock] using hb
 exact ⟨.inl rfl, Nat.lt_of_lt_of_le hgl hgr.size⟩

attribute [local irreducible] J JQ JL JA JD
set_option maxRecDepth 100000 in
set_option maxHeartbeats 4000000 in
theorem sortedT (l : List St) (v : Value) (w : World) (hrow : Arr 4 eT w v l) (hl : l.length ≤ 1000) (hb : ∀ s ∈ l, bnd s) (hd : dis l) : Calls Tryz.prog 74 #[v] w (RetS 43 4 eT (srt l) w) := by
 have hrow0 := hrow
 obtain ⟨A, cap, rfl, -, ⟨hl9, -⟩, hA⟩ := hrow
 have hsl := srt_len l
 refine J_enter (fun _ => False) (vs := [.slice A l.length cap]) (k := 9) (l := [(0, .slice A l.length cap)]) Tryz.func74 rfl rfl Tryz.ntmps74 rfl rfl (Wd.start _) ?_
 refine s7 ?_
 refine aW (ow_slice0 (k := 4) (ty := 43) rfl rfl rfl (fun _ => by kernel_rfl)) (fun b4 hb4 => ?_)
 refine s1 ?_
 refine aW (oAppG (sl := 24) ET ([] : List St) l (fun w hw => hrow0.up ET hw.bel) rfl (Nat.le_refl _) (hl := by rw [List.length_nil]; omega)) (fun t6 _ => ?_)
 obtain ⟨g6, c6⟩ := t6
 dsimp only
 rw [List.nil_append]
 refine s4 ?_
 refine kJ [(3, _)] ?_
 refine s2 ?_
 refine aW (oM (fun w hw => SortFuncT l g6 c6 w (hw.ok (ownB 43 4 (some ⟨g6, 0, none⟩) (l).length c6 ((l).flatMap eT)) (by repeat constructor)).1 (hw.newA (A := ownB 43 4 (some ⟨g6, 0, none⟩) (l).length c6 ((l).flatMap eT)) (by repeat constructor) rfl).2 hb hd hl)) (fun _ _ => ?_)
 refine s9 ?_
 refine JR_one rfl (rr_tmp rfl) ?_
 intro w' hw
 exact ⟨some ⟨g6, 0, none⟩, c6, by rw [hsl], hw.pick (by repeat constructor)⟩
end Go.Proofs.YtmcpnoailbmkkaaGreatDoor
/- Layer 7: CheckThrow. -/
namespace Go.Proofs.YtmcpnoailbmkkaaGreatDoor
open Go Go.RowKit Go.Proofs
attribute [local irreducible] J JQ JL JA JD

/-- A stone of a throw has a name that it may have. -/
def mayB (l : List St) (x : Th) (s : St) : Bool := (lookT l s.t s.n).isSome || eqK s.t s.n x.team x.n
theorem thr_no1 {l m : List St} {x : Th} (h : thrA l m x = false) : thrB l m x = false := by unfold thrB; rw [h]; rfl
theorem thr_no2 {l m : List St} {x : Th} {y : St} (h : lookT l x.team x.n = some y) : thrB l m x = false := by unfold thrB; rw [h]; simp
theorem thr_no3 {l m : List St} {x : Th} {k : Nat} (hk : k < m.length) (h : mayB l x (m[k]'hk) = false) : thrB l m x = false := by
 have : m.all (fun s => (lookT l s.t s.n).isSome || eqK s.t s.n x.team x.n) = false := by
  rw [← Bool.not_eq_true, List.all_eq_true]
  intro h1
  have := h1 _ (List.getElem_mem hk)
  unfold mayB at h
  rw [h] at this; cases this
 unfold thrB; rw [this]; simp
theorem thr_yes {l m : List St} {x : Th} (h : thrA l m x = true) (h2 : lookT l x.team x.n = none) (h3 : ∀ j (hj : j < m.length), mayB l x (m[j]'hj) = true) : thrB l m x = (!x.short || decide (srt l = srt m)) := by
 have h4 : m.all (fun s => (lookT l s.t s.n).isSome || eqK s.t s.n x.team x.n) = true := by
  rw [List.all_eq_true]
  intro s hs
  obtain ⟨j, hj, rfl⟩ := List.getElem_of_mem hs
  exact h3 j hj
 have h5 : eqL (srt l) (srt m) = decide (srt l = srt m) := by
  by_cases e : srt l = srt m
  ·rw [decide_eq_true e, (eqL_iff _ _).2 e]
  ·rw [decide_eq_false e, eqL_no e]
 unfold thrB; rw [h, h2, h4, h5]; rfl
abbrev Thv (x : Th) (A : Option Addr) (n c : Nat) : Value := .agg #[.int .i64 x.team, .int .i64 x.n, .bool x.late, .bool x.short, .int .i64 x.how, .slice A n c]
theorem bnd64 {s : St} (h : bnd s) : W64 s.t ∧ W64 s.n := by unfold bnd at h; unfold W64; omega
set_option maxRecDepth 100000 in
set_option maxHeartbeats 4000000 in
theorem CheckThrow_any (l m : List St) (x : Th) (v : Value) (A2 : Option Addr) (cap2 : Nat) (w : World) (hrow : Arr 4 eT w v l) (hrow2 : Arr 4 eT w (.slice A2 m.length cap2) m) : Calls Tryz.prog 26 #[v, Thv x A2 m.length cap2] w (Back (.bool (thrB l m x)) w) := by
 obtain ⟨xteam, xnn, xlate, xshort, xhow⟩ := x
 have hrow0 := hrow
 obtain ⟨A, cap, rfl, -, ⟨hl9, -⟩, hA⟩ := hrow
 have hrow20 := hrow2
 obtain ⟨A2', cap2', e2, -, ⟨hl92, -⟩, hA2⟩ := hrow2
 obtain ⟨rfl, -, rfl⟩ : A2 = A2' ∧ True ∧ cap2 = cap2' := by injection e2 with e1 _ e3; exact ⟨e1, trivial, e3⟩
 dsimp only [Thv]
 refine J_enter (fun _ => False) (vs := [.slice A l.length cap, .agg #[.int .i64 xteam, .int .i64 xnn, .bool xlate, .bool xshort, .int .i64 xhow, .slice A2 m.length cap2]]) (k := 86) (l := [(0, .slice A l.length cap), (1, .agg #[.int .i64 xteam, .int .i64 xnn, .bool xlate, .bool xshort, .int .i64 xhow, .slice A2 m.length cap2])]) Tryz.func26 rfl rfl Tryz.ntmps26 rfl rfl (Wd.start _) ?_
 refine s2 ?_
 refine aW (oX [_, _, _, _, _, _]) (fun b3 hb3 => ?_)
 refine s7 ?_
 refine aCB (fun w hw => Check_any l _ w (hrow0.up ET hw.bel)) ?_
 refine JL_bool (fun h14 => ?_) (fun h14 => ?_)
 ·refine s4 ?_
  refine aCB (fun w hw => Check_any m _ w (hrow20.up ET hw.bel)) ?_
  refine JL_bool (fun h19 => ?_) (fun h19 => ?_)
  ·refine s5 ?_
   refine aCB (fun w hw => rwithin _ _ _ w) ?_
   refine JL_dec (fun h25 => ?_) (fun h25 => ?_)
   ·refine s5 ?_
    refine aCB (fun w hw => rwithin _ _ _ w) ?_
    refine JL_dec (fun h31 => ?_) (fun h31 => ?_)
    ·refine s5 ?_
     refine aCB (fun w hw => rwithin _ _ _ w) ?_
     refine JL_dec (fun h37 => ?_) (fun h37 => ?_)
     ·refine s7 ?_
      have hA0 : thrA l m (⟨xteam, xnn, xlate, xshort, xhow⟩ : Th) = true := by unfold thrA; rw [h14, h19, decide_eq_true h25, decide_eq_true h31, decide_eq_true h37]; rfl
      have hbl := chk_bnd h14
      have hbm := chk_bnd h19
      have hdl := chk_dis h14
      have hdm := chk_dis h19
      have hl16 := (chk_facts h14).1
      have hm16 := (chk_facts h19).1
      have h640 : okN2 (xteam, xnn) := by unfold okN2 W64; dsimp only; omega
      refine xC (T := Nat × Nat) (fun q => True) (fun q => [(0, .slice A l.length cap), (3, .pointer (some ⟨b3, 0, none⟩)), (5, .pointer (some ⟨q.1, 0, none⟩)), (6, .map (some q.2))]) (fun q => [cellB b3 [.int .i64 xteam, .int .i64 xnn, .bool xlate, .bool xshort, .int .i64 xhow, .slice A2 m.length cap2] 26, cellB q.1 [.int .i64 xteam, .int .i64 xnn] 159, mapK Tryz.prog 159 43 kN okN2 dT q.2 l.length (tblF l)]) ?_ ?_
      ·refine kJ [(0, _), (3, _)] ?_
       refine xD [0, 1, 2, 3, 4, 5] [1, 3] ?_
       refine s4 ?_
       refine dP rfl (rp_buildC (fun us => [us.getD 0 undef, us.getD 1 undef]) rfl rfl (fun w => by kernel_rfl)) ?_
       refine s1 ?_
       refine dPair (i := 6) (j := 7) (by kernel_rfl) ?_ ?_
       ·refine St1_mk rfl wAny (oR (fun w hw => table_any l _ w (hrow0.up ET hw.bel) (fun s hs => bnd64 (hbl s hs)) (by omega))) (by first | exact trivial | exact ⟨by kernel_rfl, .inl (rfl : waitsB _ [] _ = true)⟩ | exact ⟨by kernel_rfl, .inr ⟨rfl, by repeat constructor⟩⟩) (fun b46 _ => ?_)
        refine dOA [7, 8, 9] ?_
        refine dW rfl oA (fun b5 hb5 => ?_)
        refine s3 ?_
        exact xE (b5, b46) trivial
       ·refine St1_mk rfl wAny oA (by first | exact trivial | exact ⟨by kernel_rfl, .inl (rfl : waitsB _ [] _ = true)⟩ | exact ⟨by kernel_rfl, .inr ⟨rfl, by repeat constructor⟩⟩) (fun b5 hb5 => ?_)
        refine dOA [6, 8, 9] ?_
        refine dW rfl (oR (fun w hw => table_any l _ w (hrow0.up ET hw.bel) (fun s hs => bnd64 (hbl s hs)) (by omega))) (fun b46 _ => ?_)
        refine s3 ?_
        exact xE (b5, b46) trivial
      ·rintro ⟨b5, b46⟩ -
       dsimp only
       refine s2 ?_
       rcases hr0 : tblF l (xteam, xnn) with _ | y0
       ·refine s3 ?_
        refine aV (rv_lookK2 KNR LSt (xteam, xnn) Und.h rfl rfl rfl (by repeat constructor) rfl h640 hr0) ?_
        refine s3 ?_
        refine aW oA (fun b7 hb7 => ?_)
        refine s5 ?_
        refine kJ [(0, _), (3, _), (5, _), (6, _), (8, _)] ?_
        refine s17 ?_
        refine xL (T := Nat) (fun k => k ≤ m.length ∧ ∀ j (hj : j < m.length), j < k → mayB l (⟨xteam, xnn, xlate, xshort, xhow⟩ : Th) (m[j]'hj) = true) (fun k => [(0, .slice A l.length cap), (3, .pointer (some ⟨b3, 0, none⟩)), (5, .pointer (some ⟨b5, 0, none⟩)), (6, .map (some b46)), (55, .slice A2 m.length cap2), (56, .int .i64 (m.length : Nat)), (57, .int .i64 (k : Nat))]) (fun k => [cellB b3 [.int .i64 xteam, .int .i64 xnn, .bool xlate, .bool xshort, .int .i64 xhow, .slice A2 m.length cap2] 26, cellB b5 [.int .i64 xteam, .int .i64 xnn] 159, mapK Tryz.prog 159 43 kN okN2 dT b46 l.length (tblF l)]) (fun k => m.length - k) 0 ⟨Nat.zero_le _, fun j _ h => absurd h (Nat.not_lt_zero _)⟩ ?_
        rintro k ⟨hk, hall0⟩
        refine s3 ?_
        refine JL_dec (fun h58 => ?_) (fun h58 => ?_)
        ·refine s9 ?_
         have hltx : k < m.length := by omega
         obtain ⟨bx, qx, rfl, hh2⟩ := hA2 (by intro e; subst e; simp at hltx)
         obtain ⟨⟨xt, xn, xx, xy⟩, hx⟩ : ∃ y, m[k]'hltx = y := ⟨_, rfl⟩
         have hmx : (⟨xt, xn, xx, xy⟩ : St) ∈ m := by rw [← hx]; exact List.getElem_mem _
         refine s2 ?_
         refine aV (vHoldA (cs := [.int .i64 xt, .int .i64 xn, .int .i64 xx, .int .i64 xy]) ET rfl rfl (fun h => h) hh2 hltx (by rw [hx]; rfl)) ?_
         refine aW oA (fun b10 hb10 => ?_)
         refine s4 ?_
         have h64x : okN2 (xt, xn) := bnd64 (hbm _ hmx)
         rcases hr1 : tblF l (xt, xn) with _ | y1
         ·refine s3 ?_
          refine aCB (fun w hw => of_any (⟨xt, xn, xx, xy⟩ : St) w) ?_
          refine aV (rv_lookK2 KNR LSt (xt, xn) Und.h rfl rfl rfl (by repeat constructor) rfl h64x hr1) ?_
          refine s3 ?_
          refine aW oA (fun b11 hb11 => ?_)
          refine s5 ?_
          refine kJ [(0, _), (3, _), (5, _), (6, _), (10, _), (12, _), (55, _), (56, _), (57, _)] ?_
          refine xD [0, 1, 2, 3, 5, 4, 6] [3, 5] ?_
          refine s5 ?_
          refine dCB rfl (fun w hw => of_any (⟨xt, xn, xx, xy⟩ : St) w) ?_
          refine dP rfl (pNeqN xt xn xteam xnn rfl rfl rfl) ?_
          refine dBool (fun h74 => ?_) (fun h74 => ?_)
          ·refine dO [7] ?_
           refine s5 ?_
           refine kJ [] ?_
           refine s10 ?_
           refine JR_one rfl (rr_tmp rfl) ?_
           intro w' hw
           exact ⟨by rw [thr_no3 (x := (⟨xteam, xnn, xlate, xshort, xhow⟩ : Th)) (k := k) hltx (by unfold mayB; rw [hx]; dsimp only; unfold tblF at hr1; dsimp only at hr1; rw [hr1]; cases h0 : eqK xt xn xteam xnn with | true => rw [h0] at h74; cases h74 | false => rfl)], hw.bel⟩
          ·refine dO [7] ?_
           refine s7 ?_
           refine kJ [(0, _), (3, _), (5, _), (6, _), (55, _), (56, _), (57, _)] ?_
           refine s4 ?_
           have hn : ∀ j (hj : j < m.length), j < k + 1 → mayB l (⟨xteam, xnn, xlate, xshort, xhow⟩ : Th) (m[j]'hj) = true := fun j hj hjk => by
            rcases Nat.lt_or_ge j k with h | h
            ·exact hall0 j hj h
            ·obtain rfl : j = k := by omega
             rw [hx]; unfold mayB; dsimp only; cases h0 : eqK xt xn xteam xnn with | true => simp | false => rw [h0] at h74; cases h74
           exact xR (k + 1) ⟨by omega, hn⟩ (by omega) (hl := ⟨rfl, rfl, rfl, rfl, rfl, rfl, (congrArg some (by go_num)), trivial⟩)
         ·refine s3 ?_
          refine aCB (fun w hw => of_any (⟨xt, xn, xx, xy⟩ : St) w) ?_
          refine aV (rv_lookK2 KNR LSt (xt, xn) Und.h rfl rfl rfl (by repeat constructor) rfl h64x hr1) ?_
          refine s3 ?_
          refine aW oA (fun b11 hb11 => ?_)
          refine s5 ?_
          refine kJ [(0, _), (3, _), (5, _), (6, _), (10, _), (12, _), (55, _), (56, _), (57, _)] ?_
          refine xD [0, 1, 2, 3, 4, 5, 6, 7] [3, 5] ?_
          refine s14 ?_
          refine kJ [(0, _), (3, _), (5, _), (6, _), (55, _), (56, _), (57, _)] ?_
          refine s4 ?_
          have hn : ∀ j (hj : j < m.length), j < k + 1 → mayB l (⟨xteam, xnn, xlate, xshort, xhow⟩ : Th) (m[j]'hj) = true := fun j hj hjk => by
           rcases Nat.lt_or_ge j k with h | h
           ·exact hall0 j hj h
           ·obtain rfl : j = k := by omega
            rw [hx]; unfold mayB; unfold tblF at hr1; dsimp only at hr1; rw [hr1]; rfl
          exact xR (k + 1) ⟨by omega, hn⟩ (by omega) (hl := ⟨rfl, rfl, rfl, rfl, rfl, rfl, (congrArg some (by go_num)), trivial⟩)
        ·refine s10 ?_
         have hall : ∀ j (hj : j < m.length), mayB l (⟨xteam, xnn, xlate, xshort, xhow⟩ : Th) (m[j]'hj) = true := fun j hj => hall0 j hj (by omega)
         refine kJ [(0, _), (3, _)] ?_
         refine xD [0, 1] [1, 7] ?_
         refine s2 ?_
         refine dBool (fun h78 => ?_) (fun h78 => ?_)
         ·refine dO [2, 3, 4, 6, 7, 5, 8, 9, 10, 11] ?_
          refine s5 ?_
          refine dS rfl (oS (fun w hw => sortedT l _ w (hrow0.up ET hw.bel) (by omega) hbl hdl)) (fun A82 c82 => ?_)
          refine dS rfl (oS (fun w hw => sortedT m _ w (hrow20.up ET hw.bel) (by omega) hbm hdm)) (fun A85 c85 => ?_)
          refine dCB rfl (fun w hw => EqualT (srt l) (srt m) _ _ w (own_arr (A := A82) (c := c82) ET hw (by repeat constructor) (by rw [srt_len]; omega)) (own_arr (A := A85) (c := c85) ET hw (by repeat constructor) (by rw [srt_len]; omega))) ?_
          refine s5 ?_
          refine JR_one rfl (rr_tmp rfl) ?_
          intro w' hw
          obtain rfl : k = m.length := by omega
          exact ⟨by rw [thr_yes (x := (⟨xteam, xnn, xlate, xshort, xhow⟩ : Th)) hA0 hr0 hall]; dsimp only; rw [h78]; rfl, hw.bel⟩
         ·refine dO [2, 3, 4, 5, 6, 7, 8, 9, 10, 11] ?_
          refine s13 ?_
          refine JR_one rfl (rr_tmp rfl) ?_
          intro w' hw
          obtain rfl : k = m.length := by omega
          exact ⟨by rw [thr_yes (x := (⟨xteam, xnn, xlate, xshort, xhow⟩ : Th)) hA0 hr0 hall]; dsimp only; rw [h78]; rfl, hw.bel⟩
       ·refine s3 ?_
        refine aV (rv_lookK2 KNR LSt (xteam, xnn) Und.h rfl rfl rfl (by repeat constructor) rfl h640 hr0) ?_
        refine s3 ?_
        refine aW oA (fun b7 hb7 => ?_)
        refine s5 ?_
        refine kJ [(0, _), (3, _), (5, _), (6, _), (8, _)] ?_
        refine s6 ?_
        refine kJ [] ?_
        refine s6 ?_
        refine JR_one rfl (rr_tmp rfl) ?_
        intro w' hw
        exact ⟨by rw [thr_no2 (x := (⟨xteam, xnn, xlate, xshort, xhow⟩ : Th)) (y := y0) hr0], hw.bel⟩
     ·refine s6 ?_
      refine kJ [] ?_
      refine s6 ?_
      refine JR_one rfl (rr_tmp rfl) ?_
      intro w' hw
      exact ⟨by rw [thr_no1 (by unfold thrA; rw [decide_eq_false h37]; simp)], hw.bel⟩
    ·refine s12 ?_
     refine kJ [] ?_
     refine s6 ?_
     refine JR_one rfl (rr_tmp rfl) ?_
     intro w' hw
     exact ⟨by rw [thr_no1 (by unfold thrA; rw [decide_eq_false h31]; simp)], hw.bel⟩
   ·refine s18 ?_
    refine kJ [] ?_
    refine s6 ?_
    refine JR_one rfl (rr_tmp rfl) ?_
    intro w' hw
    exact ⟨by rw [thr_no1 (by unfold thrA; rw [decide_eq_false h25]; simp)], hw.bel⟩
  ·refine s24 ?_
   refine kJ [] ?_
   refine s6 ?_
   refine JR_one rfl (rr_tmp rfl) ?_
   intro w' hw
   exact ⟨by rw [thr_no1 (by unfold thrA; rw [h19]; simp)], hw.bel⟩
 ·refine s29 ?_
  refine kJ [] ?_
  refine s6 ?_
  refine JR_one rfl (rr_tmp rfl) ?_
  intro w' hw
  exact ⟨by rw [thr_no1 (by unfold thrA; rw [h14]; simp)], hw.bel⟩
end Go.Proofs.YtmcpnoailbmkkaaGreatDoor
/- Layer 7: seen; the lines. -/
namespace Go.Proofs.YtmcpnoailbmkkaaGreatDoor
open Go Go.RowKit Go.Proofs
attribute [local irreducible] J JQ JL JA JD

/-- What happened, in memory. -/
abbrev evC (x : Th) (A : Option Addr) (n c : Nat) (rm mv sf : Bool) : List Value := [.int .i64 x.team, .int .i64 x.n, .bool x.late, .bool x.short, .int .i64 x.how, .slice A n c, .bool rm, .bool mv, .bool sf]
abbrev Evv (x : Th) (A : Option Addr) (n c : Nat) (rm mv sf : Bool) : Value := .agg #[.int .i64 x.team, .int .i64 x.n, .bool x.late, .bool x.short, .int .i64 x.how, .slice A n c, .bool rm, .bool mv, .bool sf]
theorem rem_s1 {c : Cd} {n team : Int} {m l : List St} {k : Nat} (h : k < l.length) (h1 : remB c n team m (l.take k) = true) : remB c n team m (l.take (k + 1)) = true := by rw [remB_step c n team m h, h1]; rfl
theorem rem_s2 {c : Cd} {n team : Int} {m l : List St} {k : Nat} {x y : St} (h : k < l.length) (hx : l[k]'h = x) (h1 : remB c n team m (l.take k) = false) (h2 : tblF m (x.t, x.n) = some y) : remB c n team m (l.take (k + 1)) = false := by
 unfold tblF at h2; dsimp only at h2
 rw [remB_step c n team m h, h1, hx, h2]; rfl
theorem rem_s3 {c : Cd} {n team : Int} {m l : List St} {k : Nat} {x : St} (h : k < l.length) (hx : l[k]'h = x) (h1 : remB c n team m (l.take k) = false) (h2 : tblF m (x.t, x.n) = none) : remB c n team m (l.take (k + 1)) = kpB c n team x := by
 unfold tblF at h2; dsimp only at h2
 rw [remB_step c n team m h, h1, hx, h2]; simp
theorem mov_s1 {c : Cd} {n team : Int} {m l : List St} {k : Nat} (h : k < l.length) (h1 : movB c n team m (l.take k) = true) : movB c n team m (l.take (k + 1)) = true := by rw [movB_step c n team m h, h1]; rfl
theorem mov_s2 {c : Cd} {n team : Int} {m l : List St} {k : Nat} {x : St} (h : k < l.length) (hx : l[k]'h = x) (h1 : movB c n team m (l.take k) = false) (h2 : tblF m (x.t, x.n) = none) : movB c n team m (l.take (k + 1)) = false := by
 unfold tblF at h2; dsimp only at h2
 rw [movB_step c n team m h, h1, hx, h2]; rfl
theorem mov_s3 {c : Cd} {n team : Int} {m l : List St} {k : Nat} {x : St} (h : k < l.length) (hx : l[k]'h = x) (h1 : movB c n team m (l.take k) = false) (h2 : fxB c n team x = false) : movB c n team m (l.take (k + 1)) = false := by
 rw [movB_step c n team m h, h1, hx, h2]; simp
theorem mov_s4 {c : Cd} {n team : Int} {m l : List St} {k : Nat} {x y : St} (h : k < l.length) (hx : l[k]'h = x) (h1 : movB c n team m (l.take k) = false) (h2 : fxB c n team x = true) (h3 : tblF m (x.t, x.n) = some y) : movB c n team m (l.take (k + 1)) = !cen y := by
 unfold tblF at h3; dsimp only at h3
 rw [movB_step c n team m h, h1, hx, h2, h3]; simp
set_option maxRecDepth 100000 in
set_option maxHeartbeats 4000000 in
theorem seen_any (c : Cd) (n team : Int) (l m : List St) (x : Th) (v : Value) (A2 : Option Addr) (cap2 : Nat) (w : World) (hrow : Arr 4 eT w v l) (hrow2 : Arr 4 eT w (.slice A2 m.length cap2) m) (hok : ∀ s ∈ l, W64 s.t ∧ W64 s.n) (hokm : ∀ s ∈ m, W64 s.t ∧ W64 s.n) (hm9 : m.length ≤ 1000) : Calls Tryz.prog 75 #[Tnv c n team, v, Thv x A2 m.length cap2] w (Back (Evv x A2 m.length cap2 (remB c n team m l) (movB c n team m l) (decide (n < c.s))) w) := by
 obtain ⟨kf, kt, ks, ke, kp⟩ := c
 obtain ⟨xteam, xnn, xlate, xshort, xhow⟩ := x
 have hrow0 := hrow
 obtain ⟨A, cap, rfl, -, ⟨hl9, -⟩, hA⟩ := hrow
 have hrow20 := hrow2
 dsimp only [Thv, Tnv]
 refine J_enter (fun _ => False) (vs := [.agg #[.int .i64 kf, .int .i64 kt, .int .i64 ks, .int .i64 ke, .bool kp, .int .i64 n, .int .i64 team], .slice A l.length cap, .agg #[.int .i64 xteam, .int .i64 xnn, .bool xlate, .bool xshort, .int .i64 xhow, .slice A2 m.length cap2]]) (k := 64) (l := [(0, .agg #[.int .i64 kf, .int .i64 kt, .int .i64 ks, .int .i64 ke, .bool kp, .int .i64 n, .int .i64 team]), (1, .slice A l.length cap), (2, .agg #[.int .i64 xteam, .int .i64 xnn, .bool xlate, .bool xshort, .int .i64 xhow, .slice A2 m.length cap2])]) Tryz.func75 rfl rfl Tryz.ntmps75 rfl rfl (Wd.start _) ?_
 refine s2 ?_
 refine aW (oX [_, _, _, _, _, _, _]) (fun b3 hb3 => ?_)
 refine aW (oX [_, _, _, _, _, _]) (fun b5 hb5 => ?_)
 refine aW oA (fun b6 hb6 => ?_)
 refine s11 ?_
 refine aP (rp_buildC (fun us => [us.getD 0 undef, .bool false, .bool false, us.getD 1 undef]) rfl rfl (fun w => by kernel_rfl)) ?_
 refine aW oA (fun b7 hb7 => ?_)
 refine aW0 (wStore (cs := [_, _, _, _, _, _, _, _, _]) rfl rfl rfl rfl rfl rfl rfl (by repeat constructor) rfl rfl) ?_
 refine s3 ?_
 refine kJ [(1, _), (3, _), (5, _), (6, _), (7, _)] ?_
 refine s3 ?_
 refine aW (oR (fun w hw => table_any m _ w (hrow20.up ET hw.bel) hokm hm9)) (fun b23 _ => ?_)
 refine s5 ?_
 refine kJ [(1, _), (3, _), (6, _), (7, _), (8, _)] ?_
 refine s7 ?_
 refine xL (T := Nat) (fun k => k ≤ l.length) (fun k => [(3, .pointer (some ⟨b3, 0, none⟩)), (6, .pointer (some ⟨b6, 0, none⟩)), (7, .pointer (some ⟨b7, 0, none⟩)), (8, .map (some b23)), (24, .slice A l.length cap), (25, .int .i64 (l.length : Nat)), (26, .int .i64 (k : Nat))]) (fun k => [cellB b3 [.int .i64 kf, .int .i64 kt, .int .i64 ks, .int .i64 ke, .bool kp, .int .i64 n, .int .i64 team] 100, cellB b6 (evC ⟨0, 0, false, false, 0⟩ none 0 0 false false false) 167, cellB b7 (evC (⟨xteam, xnn, xlate, xshort, xhow⟩ : Th) A2 m.length cap2 (remB (⟨kf, kt, ks, ke, kp⟩ : Cd) n team m (l.take k)) (movB (⟨kf, kt, ks, ke, kp⟩ : Cd) n team m (l.take k)) (decide (n < ks))) 167, mapK Tryz.prog 159 43 kN okN2 dT b23 m.length (tblF m)]) (fun k => l.length - k) 0 (Nat.zero_le _) ?_ (hH := by (try dsimp only); rw [show remB (⟨kf, kt, ks, ke, kp⟩ : Cd) n team m (l.take 0) = false from rfl, show movB (⟨kf, kt, ks, ke, kp⟩ : Cd) n team m (l.take 0) = false from rfl]; repeat constructor)
 rintro k hk
 refine s3 ?_
 refine JL_dec (fun h27 => ?_) (fun h27 => ?_)
 ·refine s9 ?_
  have hltx : k < l.length := by omega
  obtain ⟨bx, qx, rfl, hh⟩ := hA (by intro e; subst e; simp at hltx)
  obtain ⟨⟨xt, xn, xx, xy⟩, hx⟩ : ∃ y, l[k]'hltx = y := ⟨_, rfl⟩
  have hmx : (⟨xt, xn, xx, xy⟩ : St) ∈ l := by rw [← hx]; exact List.getElem_mem _
  refine s2 ?_
  refine aV (vHoldA (cs := [.int .i64 xt, .int .i64 xn, .int .i64 xx, .int .i64 xy]) ET rfl rfl (fun h => h) hh hltx (by rw [hx]; rfl)) ?_
  refine aW oA (fun b10 hb10 => ?_)
  refine s4 ?_
  have h64x : okN2 (xt, xn) := hok _ hmx
  rcases hr1 : tblF m (xt, xn) with _ | ⟨yt, yn, yx, yy⟩
  ·refine s3 ?_
   refine aCB (fun w hw => of_any (⟨xt, xn, xx, xy⟩ : St) w) ?_
   refine aV (rv_lookK2 KNR LSt (xt, xn) Und.h rfl rfl rfl (by repeat constructor) rfl h64x hr1) ?_
   refine s3 ?_
   refine aW oA (fun b11 hb11 => ?_)
   refine s5 ?_
   refine kJ [(3, _), (6, _), (7, _), (8, _), (10, _), (11, _), (12, _), (24, _), (25, _), (26, _)] ?_
   refine s3 ?_
   refine JL_bool (fun h38 => ?_) (fun h38 => ?_)
   ·have hrm := h38
    refine s13 ?_
    refine kJ [(3, _), (6, _), (7, _), (8, _), (10, _), (11, _), (12, _), (24, _), (25, _), (26, _)] ?_
    refine s3 ?_
    refine JL_bool (fun h50 => ?_) (fun h50 => ?_)
    ·have hmv := h50
     refine s18 ?_
     refine kJ [(3, _), (6, _), (7, _), (8, _), (24, _), (25, _), (26, _)] ?_
     refine s4 ?_
     have hs1 := rem_s1 hltx hrm
     have hs2 := mov_s1 hltx hmv
     (try dsimp only at hs1 hs2)
     exact xR (k + 1) (by omega) (by omega) (hl := ⟨rfl, rfl, rfl, rfl, rfl, rfl, (congrArg some (by go_num)), trivial⟩) (hH := by (try dsimp only); rw [hs1, hs2]; repeat constructor)
    ·have hmv := h50
     refine s18 ?_
     refine kJ [(3, _), (6, _), (7, _), (8, _), (24, _), (25, _), (26, _)] ?_
     refine s4 ?_
     have hs1 := rem_s1 hltx hrm
     have hs2 := mov_s2 hltx hx hmv hr1
     (try dsimp only at hs1 hs2)
     exact xR (k + 1) (by omega) (by omega) (hl := ⟨rfl, rfl, rfl, rfl, rfl, rfl, (congrArg some (by go_num)), trivial⟩) (hH := by (try dsimp only); rw [hs1, hs2]; repeat constructor)
   ·have hrm := h38
    refine s6 ?_
    refine aCB (fun w hw => keeps_any (⟨kf, kt, ks, ke, kp⟩ : Cd) n team (⟨xt, xn, xx, xy⟩ : St) w) ?_
    refine s6 ?_
    refine kJ [(3, _), (6, _), (7, _), (8, _), (10, _), (11, _), (12, _), (24, _), (25, _), (26, _)] ?_
    refine s3 ?_
    refine JL_bool (fun h50 => ?_) (fun h50 => ?_)
    ·have hmv := h50
     refine s18 ?_
     refine kJ [(3, _), (6, _), (7, _), (8, _), (24, _), (25, _), (26, _)] ?_
     refine s4 ?_
     have hs1 := rem_s3 hltx hx hrm hr1
     have hs2 := mov_s1 hltx hmv
     (try dsimp only at hs1 hs2)
     exact xR (k + 1) (by omega) (by omega) (hl := ⟨rfl, rfl, rfl, rfl, rfl, rfl, (congrArg some (by go_num)), trivial⟩) (hH := by (try dsimp only); rw [hs1, hs2]; repeat constructor)
    ·have hmv := h50
     refine s18 ?_
     refine kJ [(3, _), (6, _), (7, _), (8, _), (24, _), (25, _), (26, _)] ?_
     refine s4 ?_
     have hs1 := rem_s3 hltx hx hrm hr1
     have hs2 := mov_s2 hltx hx hmv hr1
     (try dsimp only at hs1 hs2)
     exact xR (k + 1) (by omega) (by omega) (hl := ⟨rfl, rfl, rfl, rfl, rfl, rfl, (congrArg some (by go_num)), trivial⟩) (hH := by (try dsimp only); rw [hs1, hs2]; repeat constructor)
  ·refine s3 ?_
   refine aCB (fun w hw => of_any (⟨xt, xn, xx, xy⟩ : St) w) ?_
   refine aV (rv_lookK2 KNR LSt (xt, xn) Und.h rfl rfl rfl (by repeat constructor) rfl h64x hr1) ?_
   refine s3 ?_
   refine aW oA (fun b11 hb11 => ?_)
   refine s5 ?_
   refine kJ [(3, _), (6, _), (7, _), (8, _), (10, _), (11, _), (12, _), (24, _), (25, _), (26, _)] ?_
   refine s3 ?_
   refine JL_bool (fun h38 => ?_) (fun h38 => ?_)
   ·have hrm := h38
    refine s13 ?_
    refine kJ [(3, _), (6, _), (7, _), (8, _), (10, _), (11, _), (12, _), (24, _), (25, _), (26, _)] ?_
    refine s3 ?_
    refine JL_bool (fun h50 => ?_) (fun h50 => ?_)
    ·have hmv := h50
     refine s18 ?_
     refine kJ [(3, _), (6, _), (7, _), (8, _), (24, _), (25, _), (26, _)] ?_
     refine s4 ?_
     have hs1 := rem_s1 hltx hrm
     have hs2 := mov_s1 hltx hmv
     (try dsimp only at hs1 hs2)
     exact xR (k + 1) (by omega) (by omega) (hl := ⟨rfl, rfl, rfl, rfl, rfl, rfl, (congrArg some (by go_num)), trivial⟩) (hH := by (try dsimp only); rw [hs1, hs2]; repeat constructor)
    ·have hmv := h50
     refine s5 ?_
     refine aCB (fun w hw => fixes_any (⟨kf, kt, ks, ke, kp⟩ : Cd) n team (⟨xt, xn, xx, xy⟩ : St) w) ?_
     refine JL_bool (fun h56 => ?_) (fun h56 => ?_)
     ·refine s3 ?_
      refine aCB (fun w hw => central_any ⟨yt, yn, yx, yy⟩ w) ?_
      refine s8 ?_
      refine kJ [(3, _), (6, _), (7, _), (8, _), (24, _), (25, _), (26, _)] ?_
      refine s4 ?_
      have hs1 := rem_s1 hltx hrm
      have hs2 := mov_s4 hltx hx hmv h56 hr1
      (try dsimp only at hs1 hs2)
      exact xR (k + 1) (by omega) (by omega) (hl := ⟨rfl, rfl, rfl, rfl, rfl, rfl, (congrArg some (by go_num)), trivial⟩) (hH := by (try dsimp only); rw [hs1, hs2]; repeat constructor)
     ·refine s12 ?_
      refine kJ [(3, _), (6, _), (7, _), (8, _), (24, _), (25, _), (26, _)] ?_
      refine s4 ?_
      have hs1 := rem_s1 hltx hrm
      have hs2 := mov_s3 hltx hx hmv h56
      (try dsimp only at hs1 hs2)
      exact xR (k + 1) (by omega) (by omega) (hl := ⟨rfl, rfl, rfl, rfl, rfl, rfl, (congrArg some (by go_num)), trivial⟩) (hH := by (try dsimp only); rw [hs1, hs2]; repeat constructor)
   ·have hrm := h38
    refine s13 ?_
    refine kJ [(3, _), (6, _), (7, _), (8, _), (10, _), (11, _), (12, _), (24, _), (25, _), (26, _)] ?_
    refine s3 ?_
    refine JL_bool (fun h50 => ?_) (fun h50 => ?_)
    ·have hmv := h50
     refine s18 ?_
     refine kJ [(3, _), (6, _), (7, _), (8, _), (24, _), (25, _), (26, _)] ?_
     refine s4 ?_
     have hs1 := rem_s2 hltx hx hrm hr1
     have hs2 := mov_s1 hltx hmv
     (try dsimp only at hs1 hs2)
     exact xR (k + 1) (by omega) (by omega) (hl := ⟨rfl, rfl, rfl, rfl, rfl, rfl, (congrArg some (by go_num)), trivial⟩) (hH := by (try dsimp only); rw [hs1, hs2]; repeat constructor)
    ·have hmv := h50
     refine s5 ?_
     refine aCB (fun w hw => fixes_any (⟨kf, kt, ks, ke, kp⟩ : Cd) n team (⟨xt, xn, xx, xy⟩ : St) w) ?_
     refine JL_bool (fun h56 => ?_) (fun h56 => ?_)
     ·refine s3 ?_
      refine aCB (fun w hw => central_any ⟨yt, yn, yx, yy⟩ w) ?_
      refine s8 ?_
      refine kJ [(3, _), (6, _), (7, _), (8, _), (24, _), (25, _), (26, _)] ?_
      refine s4 ?_
      have hs1 := rem_s2 hltx hx hrm hr1
      have hs2 := mov_s4 hltx hx hmv h56 hr1
      (try dsimp only at hs1 hs2)
      exact xR (k + 1) (by omega) (by omega) (hl := ⟨rfl, rfl, rfl, rfl, rfl, rfl, (congrArg some (by go_num)), trivial⟩) (hH := by (try dsimp only); rw [hs1, hs2]; repeat constructor)
     ·refine s12 ?_
      refine kJ [(3, _), (6, _), (7, _), (8, _), (24, _), (25, _), (26, _)] ?_
      refine s4 ?_
      have hs1 := rem_s2 hltx hx hrm hr1
      have hs2 := mov_s3 hltx hx hmv h56
      (try dsimp only at hs1 hs2)
      exact xR (k + 1) (by omega) (by omega) (hl := ⟨rfl, rfl, rfl, rfl, rfl, rfl, (congrArg some (by go_num)), trivial⟩) (hH := by (try dsimp only); rw [hs1, hs2]; repeat constructor)
 ·refine s10 ?_
  refine kJ [(6, _), (7, _)] ?_
  refine s1 ?_
  refine aV (vAgg [_, _, _, _, _, _, _, _, _] rfl rfl rfl (by repeat constructor) rfl) ?_
  refine aW0 (wStore (cs := [_, _, _, _, _, _, _, _, _]) rfl rfl rfl rfl rfl rfl rfl (by repeat constructor) rfl rfl) ?_
  refine s3 ?_
  refine JR_one rfl (rr_agg (cs := [_, _, _, _, _, _, _, _, _]) rfl Agg.h (Siz.h (k := 9)) (by repeat constructor) (by rfl)) ?_
  intro w' hw
  obtain rfl : k = l.length := by omega
  rw [List.take_length] at *
  exact ⟨rfl, hw.bel⟩
set_option maxRecDepth 100000 in
set_option maxHeartbeats 4000000 in
theorem line123 (x : Th) (A2 : Option Addr) (m : List St) (cap2 : Nat) (rm mv sf : Bool) (w : World) : Calls Tryz.prog 123 #[Evv x A2 m.length cap2 rm mv sf] w (Back (.bool x.late) w) := by
 obtain ⟨xteam, xnn, xlate, xshort, xhow⟩ := x
 refine J_enter (fun _ => False) (vs := [.agg #[.int .i64 xteam, .int .i64 xnn, .bool xlate, .bool xshort, .int .i64 xhow, .slice A2 m.length cap2, .bool rm, .bool mv, .bool sf]]) (k := 5) (l := [(0, .agg #[.int .i64 xteam, .int .i64 xnn, .bool xlate, .bool xshort, .int .i64 xhow, .slice A2 m.length cap2, .bool rm, .bool mv, .bool sf])]) Tryz.func123 rfl rfl Tryz.ntmps123 rfl rfl (Wd.start _) ?_
 refine s2 ?_
 refine aW (oX [_, _, _, _, _, _, _, _, _]) (fun b1 hb1 => ?_)
 refine s12 ?_
 refine JR_one rfl (rr_tmp rfl) ?_
 intro w' hw
 exact ⟨rfl, hw.bel⟩
set_option maxRecDepth 100000 in
set_option maxHeartbeats 4000000 in
theorem line124 (x : Th) (A2 : Option Addr) (m : List St) (cap2 : Nat) (rm mv sf : Bool) (w : World) : Calls Tryz.prog 124 #[Evv x A2 m.length cap2 rm mv sf] w (Back (.bool x.short) w) := by
 obtain ⟨xteam, xnn, xlate, xshort, xhow⟩ := x
 refine J_enter (fun _ => False) (vs := [.agg #[.int .i64 xteam, .int .i64 xnn, .bool xlate, .bool xshort, .int .i64 xhow, .slice A2 m.length cap2, .bool rm, .bool mv, .bool sf]]) (k := 5) (l := [(0, .agg #[.int .i64 xteam, .int .i64 xnn, .bool xlate, .bool xshort, .int .i64 xhow, .slice A2 m.length cap2, .bool rm, .bool mv, .bool sf])]) Tryz.func124 rfl rfl Tryz.ntmps124 rfl rfl (Wd.start _) ?_
 refine s2 ?_
 refine aW (oX [_, _, _, _, _, _, _, _, _]) (fun b1 hb1 => ?_)
 refine s12 ?_
 refine JR_one rfl (rr_tmp rfl) ?_
 intro w' hw
 exact ⟨rfl, hw.bel⟩
set_option maxRecDepth 100000 in
set_option maxHeartbeats 4000000 in
theorem line125 (x : Th) (A2 : Option Addr) (m : List St) (cap2 : Nat) (rm mv sf : Bool) (w : World) : Calls Tryz.prog 125 #[Evv x A2 m.length cap2 rm mv sf] w (Back (.bool (rm && !sf)) w) := by
 obtain ⟨xteam, xnn, xlate, xshort, xhow⟩ := x
 refine J_enter (fun _ => False) (vs := [.agg #[.int .i64 xteam, .int .i64 xnn, .bool xlate, .bool xshort, .int .i64 xhow, .slice A2 m.length cap2, .bool rm, .bool mv, .bool sf]]) (k := 9) (l := [(0, .agg #[.int .i64 xteam, .int .i64 xnn, .bool xlate, .bool xshort, .int .i64 xhow, .slice A2 m.length cap2, .bool rm, .bool mv, .bool sf])]) Tryz.func125 rfl rfl Tryz.ntmps125 rfl rfl (Wd.start _) ?_
 refine s2 ?_
 refine aW (oX [_, _, _, _, _, _, _, _, _]) (fun b1 hb1 => ?_)
 refine s7 ?_
 refine JL_bool (fun h4 => ?_) (fun h4 => ?_)
 ·refine s9 ?_
  refine JR_one rfl (rr_tmp rfl) ?_
  intro w' hw
  exact ⟨by rw [h4]; first | rfl | simp, hw.bel⟩
 ·refine s9 ?_
  refine JR_one rfl (rr_tmp rfl) ?_
  intro w' hw
  exact ⟨by rw [h4]; first | rfl | simp, hw.bel⟩
set_option maxRecDepth 100000 in
set_option maxHeartbeats 4000000 in
theorem line126 (x : Th) (A2 : Option Addr) (m : List St) (cap2 : Nat) (rm mv sf : Bool) (w : World) : Calls Tryz.prog 126 #[Evv x A2 m.length cap2 rm mv sf] w (Back (.bool rm) w) := by
 obtain ⟨xteam, xnn, xlate, xshort, xhow⟩ := x
 refine J_enter (fun _ => False) (vs := [.agg #[.int .i64 xteam, .int .i64 xnn, .bool xlate, .bool xshort, .int .i64 xhow, .slice A2 m.length cap2, .bool rm, .bool mv, .bool sf]]) (k := 4) (l := [(0, .agg #[.int .i64 xteam, .int .i64 xnn, .bool xlate, .bool xshort, .int .i64 xhow, .slice A2 m.length cap2, .bool rm, .bool mv, .bool sf])]) Tryz.func126 rfl rfl Tryz.ntmps126 rfl rfl (Wd.start _) ?_
 refine s2 ?_
 refine aW (oX [_, _, _, _, _, _, _, _, _]) (fun b1 hb1 => ?_)
 refine s11 ?_
 refine JR_one rfl (rr_tmp rfl) ?_
 intro w' hw
 exact ⟨rfl, hw.bel⟩
set_option maxRecDepth 100000 in
set_option maxHeartbeats 4000000 in
theorem line127 (x : Th) (A2 : Option Addr) (m : List St) (cap2 : Nat) (rm mv sf : Bool) (w : World) : Calls Tryz.prog 127 #[Evv x A2 m.length cap2 rm mv sf] w (Back (.bool mv) w) := by
 obtain ⟨xteam, xnn, xlate, xshort, xhow⟩ := x
 refine J_enter (fun _ => False) (vs := [.agg #[.int .i64 xteam, .int .i64 xnn, .bool xlate, .bool xshort, .int .i64 xhow, .slice A2 m.length cap2, .bool rm, .bool mv, .bool sf]]) (k := 4) (l := [(0, .agg #[.int .i64 xteam, .int .i64 xnn, .bool xlate, .bool xshort, .int .i64 xhow, .slice A2 m.length cap2, .bool rm, .bool mv, .bool sf])]) Tryz.func127 rfl rfl Tryz.ntmps127 rfl rfl (Wd.start _) ?_
 refine s2 ?_
 refine aW (oX [_, _, _, _, _, _, _, _, _]) (fun b1 hb1 => ?_)
 refine s11 ?_
 refine JR_one rfl (rr_tmp rfl) ?_
 intro w' hw
 exact ⟨rfl, hw.bel⟩
set_option maxRecDepth 100000 in
set_option maxHeartbeats 4000000 in
theorem line122 (b : Nat) (how : Int) (x : Th) (A2 : Option Addr) (m : List St) (cap2 : Nat) (rm mv sf : Bool) (w : World) (hc : (cellB b [.int .i64 how] 3).holds w) : Calls Tryz.prog 122 #[Evv x A2 m.length cap2 rm mv sf, .pointer (some ⟨b, 0, none⟩)] w (Back (.bool (decide (x.how = how))) w) := by
 obtain ⟨xteam, xnn, xlate, xshort, xhow⟩ := x
 refine J_enter (fun _ => False) (vs := [.agg #[.int .i64 xteam, .int .i64 xnn, .bool xlate, .bool xshort, .int .i64 xhow, .slice A2 m.length cap2, .bool rm, .bool mv, .bool sf], .pointer (some ⟨b, 0, none⟩)]) (k := 7) (l := [(0, .agg #[.int .i64 xteam, .int .i64 xnn, .bool xlate, .bool xshort, .int .i64 xhow, .slice A2 m.length cap2, .bool rm, .bool mv, .bool sf]), (1, .pointer (some ⟨b, 0, none⟩))]) Tryz.func122 rfl rfl Tryz.ntmps122 rfl rfl (Wd.start _) ?_
 refine s2 ?_
 refine aW (oX [_, _, _, _, _, _, _, _, _]) (fun b2 hb2 => ?_)
 refine s8 ?_
 refine aV (vOld rfl rfl (fun h => h) (cellB_get hc rfl)) ?_
 refine s5 ?_
 refine JR_one rfl (rr_tmp rfl) ?_
 intro w' hw
 exact ⟨rfl, hw.bel⟩
set_option maxRecDepth 100000 in
set_option maxHeartbeats 4000000 in
theorem line121 (how : Int) (w : World) : Calls Tryz.prog 121 #[.int .i64 how] w (Ret w (fun _ : Nat => True) (fun b => .func (.func 122) #[] #[.pointer (some ⟨b, 0, none⟩)]) (fun b => [cellB b [.int .i64 how] 3])) := by
 refine J_enter (fun _ => False) (vs := [.int .i64 how]) (k := 3) (l := [(0, .int .i64 how)]) Tryz.func121 rfl rfl Tryz.ntmps121 rfl rfl (Wd.start _) ?_
 refine s2 ?_
 refine aW (oX [_]) (fun b1 hb1 => ?_)
 refine s10 ?_
 refine JR_one rfl (rr_tmp rfl) ?_
 intro w' hw
 exact ⟨b1, trivial, rfl, hw.pick (by repeat constructor)⟩
/-- A line: its number, and the function that asks. -/
structure Ln where
 r : Int
 f : Value
def eL (p : Ln) : List Value := [.int .i64 p.r, p.f]
/-- The lines, with the cells of those that ask what was touched. -/
abbrev linL (b1 b2 b3 b4 : Nat) : List Ln := [⟨1, .func (.func 123) #[] #[]⟩, ⟨2, .func (.func 122) #[] #[.pointer (some ⟨b1, 0, none⟩)]⟩, ⟨3, .func (.func 124) #[] #[]⟩, ⟨4, .func (.func 122) #[] #[.pointer (some ⟨b2, 0, none⟩)]⟩, ⟨5, .func (.func 122) #[] #[.pointer (some ⟨b3, 0, none⟩)]⟩, ⟨6, .func (.func 122) #[] #[.pointer (some ⟨b4, 0, none⟩)]⟩, ⟨7, .func (.func 125) #[] #[]⟩, ⟨8, .func (.func 126) #[] #[]⟩, ⟨9, .func (.func 127) #[] #[]⟩]
instance : Cf Tryz.prog 121 := ⟨fun _ _ => by kernel_rfl⟩
set_option maxRecDepth 100000 in
set_option maxHeartbeats 4000000 in
theorem lines_any (w : World) : Calls Tryz.prog 76 #[] w (Ret w (fun _ : Nat × Nat × Nat × Nat × Nat => True) (fun t => .slice (some ⟨t.2.2.2.2, 0, none⟩) 9 9) (fun t => [cellB t.2.2.2.2 ((linL t.1 t.2.1 t.2.2.1 t.2.2.2.1).flatMap eL) 173, cellB t.1 [.int .i64 1] 3, cellB t.2.1 [.int .i64 3] 3, cellB t.2.2.1 [.int .i64 2] 3, cellB t.2.2.2.1 [.int .i64 4] 3])) := by
 refine J_enter (fun _ => False) (vs := []) (k := 20) (l := []) Tryz.func76 rfl rfl Tryz.ntmps76 rfl rfl (Wd.start _) ?_
 refine s12 ?_
 refine aP (rp_buildC (fun us => [us.getD 0 undef, us.getD 1 undef]) rfl rfl (fun w => by kernel_rfl)) ?_
 refine s1 ?_
 refine aW (ow_callR (ec_val rfl rfl rfl Cf.h) rfl rfl (fun _ => rfl) (fun w hw => line121 _ w)) (fun b4 _ => ?_)
 refine aP (rp_buildC (fun us => [us.getD 0 undef, us.getD 1 undef]) rfl rfl (fun w => by kernel_rfl)) ?_
 refine aP (rp_buildC (fun us => [us.getD 0 undef, us.getD 1 undef]) rfl rfl (fun w => by kernel_rfl)) ?_
 refine s1 ?_
 refine aW (ow_callR (ec_val rfl rfl rfl Cf.h) rfl rfl (fun _ => rfl) (fun w hw => line121 _ w)) (fun b8 _ => ?_)
 refine aP (rp_buildC (fun us => [us.getD 0 undef, us.getD 1 undef]) rfl rfl (fun w => by kernel_rfl)) ?_
 refine s1 ?_
 refine aW (ow_callR (ec_val rfl rfl rfl Cf.h) rfl rfl (fun _ => rfl) (fun w hw => line121 _ w)) (fun b11 _ => ?_)
 refine aP (rp_buildC (fun us => [us.getD 0 undef, us.getD 1 undef]) rfl rfl (fun w => by kernel_rfl)) ?_
 refine s1 ?_
 refine aW (ow_callR (ec_val rfl rfl rfl Cf.h) rfl rfl (fun _ => rfl) (fun w hw => line121 _ w)) (fun b14 _ => ?_)
 refine aP (rp_buildC (fun us => [us.getD 0 undef, us.getD 1 undef]) rfl rfl (fun w => by kernel_rfl)) ?_
 refine aP (rp_buildC (fun us => [us.getD 0 undef, us.getD 1 undef]) rfl rfl (fun w => by kernel_rfl)) ?_
 refine aP (rp_buildC (fun us => [us.getD 0 undef, us.getD 1 undef]) rfl rfl (fun w => by kernel_rfl)) ?_
 refine aP (rp_buildC (fun us => [us.getD 0 undef, us.getD 1 undef]) rfl rfl (fun w => by kernel_rfl)) ?_
 refine aW (ow_sliceC (vs := [_, _, _, _, _, _, _, _, _, _, _, _, _, _, _, _, _, _]) (ty := 173) rfl rfl (by rfl) rfl rfl (fun _ => by kernel_rfl)) (fun b19 hb19 => ?_)
 refine s4 ?_
 refine JR_one rfl (rr_tmp rfl) ?_
 intro w' hw
 exact ⟨(b4, b8, b11, b14, b19), trivial, rfl, hw.pick (by repeat constructor)⟩
end Go.Proofs.YtmcpnoailbmkkaaGreatDoor
/- Layer 7: DeleteFunc; distinct. -/
namespace Go.Proofs.YtmcpnoailbmkkaaGreatDoor
open Go Go.RowKit Go.Proofs
attribute [local irreducible] J JQ JL JA JD

theorem fidx_cs (p : St → Bool) (l : List St) : (fidx p l = -1 ∧ l.filter (fun x => !p x) = l) ∨ ∃ j, j < l.length ∧ fidx p l = (j : Int) ∧ l.take j = (l.take (j + 1)).filter (fun x => !p x) := by
 by_cases h : 0 ≤ fidx p l
 ·obtain ⟨k, hk, e, h1, h2⟩ := fidx_in h
  refine .inr ⟨k, hk, e, ?_⟩
  rw [List.take_succ_eq_append_getElem hk, List.filter_append]
  have e1 : [l[k]'hk].filter (fun x => !p x) = [] := by simp [h1]
  rw [e1, List.append_nil]
  refine (List.filter_eq_self.2 (fun s hs => ?_)).symm
  obtain ⟨j, hj, rfl⟩ := List.getElem_of_mem hs
  rw [List.length_take] at hj
  rw [List.getElem_take, h2 j (by omega)]; rfl
 ·refine .inl ⟨by have := fidx_le p l; omega, List.filter_eq_self.2 (fun s hs => by rw [fidx_out h s hs]; rfl)⟩
set_option maxRecDepth 100000 in
set_option maxHeartbeats 4000000 in
theorem DeleteFuncT (f : FuncId) (caps : Array Value) (p : St → Bool) (l : List St) (A : Option Addr) (c : Nat) (w : World) [hf : Cf Tryz.prog f] (hl : l.length ≤ 1000) (hA : (ownB 43 4 A l.length c (l.flatMap eT)).holds w) (hAf : ∀ b, (ownB 43 4 A l.length c (l.flatMap eT)).foot b → b < w.heap.size) (hcl : ∀ x ∈ l, ∀ W, Wd ⟨w, (ownB 43 4 A l.length c (l.flatMap eT)).foot, none, []⟩ [] W → Calls Tryz.prog f (#[] ++ #[Stv x] ++ caps) W (Back (.bool (p x)) W)) : Calls Tryz.prog 80 #[.slice A l.length c, .func (.func f) #[] caps] w (RetM (ownB 43 4 A l.length c (l.flatMap eT)) (fun _ : Unit => True) (fun _ => .slice A (l.filter (fun x => !p x)).length c) (fun _ => ownB 43 4 A (l.filter (fun x => !p x)).length c ((l.filter (fun x => !p x)).flatMap eT)) w) := by
 refine J_start (B := ⟨w, (ownB 43 4 A l.length c (l.flatMap eT)).foot, none, []⟩) rfl rfl (vs := [.slice A l.length c, .func (.func f) #[] caps]) (k := 40) (l := [(0, .slice A l.length c), (1, .func (.func f) #[] caps)]) Tryz.func80 rfl rfl Tryz.ntmps80 rfl rfl (Wd.startM hA hAf) ?_
 refine s9 ?_
 refine aCB (fun w hw => IndexFuncT f caps p l _ w (fun x hx W hW => hcl x hx W ((hw.up hW).pick (Pk.nil _))) (own_arr ET hw (by repeat constructor) (by omega))) ?_
 refine s5 ?_
 rcases fidx_cs p l with ⟨hk1, hk2⟩ | ⟨k0, hk1, hk2, hk3⟩
 ·rw [hk1]
  refine kJ [(0, _), (1, _), (5, _)] ?_
  refine s3 ?_
  refine aDecT ?_
  refine s4 ?_
  refine kJ [(0, _)] ?_
  refine s7 ?_
  refine JR_one rfl (rr_tmp rfl) ?_
  intro w' hw
  exact ⟨(), trivial, by rw [hk2], by dsimp only; rw [hk2]; exact hw.pick (by repeat constructor)⟩
 ·rw [hk2]
  refine J_fact (fun hw => ?_)
  obtain ⟨g, rfl⟩ := own_some hw (ty := 43) (k := 4) (m := l.length) (c := c) (A := A) (xs := l.flatMap eT) (by repeat constructor) (by omega)
  clear hw
  refine kJ [(0, _), (1, _), (5, _)] ?_
  refine s3 ?_
  refine aDecF ?_
  refine s14 ?_
  refine xL (T := Nat × Nat × List St) (fun q => (q.1 < q.2.1 ∧ q.2.1 ≤ l.length) ∧ q.2.2.length = l.length ∧ q.2.2.take q.1 = (l.take q.2.1).filter (fun x => !p x) ∧ q.2.2.drop q.2.1 = l.drop q.2.1) (fun q => [(0, .slice (some ⟨g, 0, none⟩) l.length c), (1, .func (.func f) #[] caps), (5, .int .i64 (q.1 : Nat)), (6, .int .i64 (q.2.1 : Nat))]) (fun q => [ownB 43 4 (some ⟨g, 0, none⟩) l.length c (q.2.2.flatMap eT)]) (fun q => l.length - q.2.1) (k0, k0 + 1, l) ⟨⟨by dsimp only; omega, by dsimp only; omega⟩, rfl, hk3, rfl⟩ ?_
  rintro ⟨i, j, Mm⟩ ⟨⟨hij, hj⟩, hML, hM1, hM2⟩
  dsimp only at hij hj hML hM1 hM2 ⊢
  refine s7 ?_
  refine JL_dec (fun h19 => ?_) (fun h19 => ?_)
  ·refine s8 ?_
   have hjl : j < l.length := by omega
   have hjM : j < Mm.length := by omega
   obtain ⟨⟨zt, zn, zx, zy⟩, hz⟩ : ∃ z, l[j]'hjl = z := ⟨_, rfl⟩
   have hmz : (⟨zt, zn, zx, zy⟩ : St) ∈ l := by rw [← hz]; exact List.getElem_mem _
   have hjz : Mm[j]'hjM = (⟨zt, zn, zx, zy⟩ : St) := by
    have h1 : (Mm.drop j)[0]? = (l.drop j)[0]? := by rw [hM2]
    rw [List.getElem?_drop, List.getElem?_drop, Nat.add_zero, List.getElem?_eq_getElem hjl, List.getElem?_eq_getElem hjM] at h1
    rw [← hz]; exact Option.some.inj h1
   refine kJ [(0, _), (1, _), (5, _), (6, _)] ?_
   refine s4 ?_
   refine aV (vOwnA (cs := [.int .i64 zt, .int .i64 zn, .int .i64 zx, .int .i64 zy]) ET rfl rfl (by repeat constructor) hjM (by rw [hjz]; rfl)) ?_
   refine aW oA (fun b7 hb7 => ?_)
   refine s4 ?_
   refine kJ [(0, _), (1, _), (5, _), (6, _), (7, _)] ?_
   refine s3 ?_
   refine aW (ow_callB (ec_val rfl rfl rfl Cf.h) rfl rfl (fun w hw => hcl _ hmz w (hw.pick (Pk.nil _)))) (fun _ _ => ?_)
   refine JL_bool (fun h28 => ?_) (fun h28 => ?_)
   ·refine s7 ?_
    refine kJ [(0, _), (1, _), (5, _), (6, _)] ?_
    refine s5 ?_
    have hst : (l.take (j + 1)).filter (fun x => !p x) = (l.take j).filter (fun x => !p x) := by rw [List.take_succ_eq_append_getElem hjl, List.filter_append, hz]; simp [h28]
    have hdr : Mm.drop (j + 1) = l.drop (j + 1) := by rw [List.drop_eq_getElem_cons hjl, List.drop_eq_getElem_cons hjM] at hM2; injection hM2
    exact xR (i, j + 1, Mm) ⟨⟨by dsimp only; omega, by dsimp only; omega⟩, hML, by dsimp only; rw [hst]; exact hM1, hdr⟩ (by dsimp only; omega) (hl := ⟨rfl, rfl, rfl, (congrArg some (by go_num)), trivial⟩)
   ·refine s5 ?_
    refine kJ [(0, _), (1, _), (5, _), (6, _), (7, _)] ?_
    refine s4 ?_
    refine aP (pIdxI (i) rfl rfl rfl) ?_
    refine aW0 (oStE ET [_, _, _, _] (⟨zt, zn, zx, zy⟩ : St) (show i < Mm.length by omega) (hi := Nat.le_refl _)) ?_
    refine s2 ?_
    refine kJ [(0, _), (1, _), (5, _), (6, _)] ?_
    refine s12 ?_
    have hst : (l.take (j + 1)).filter (fun x => !p x) = (l.take j).filter (fun x => !p x) ++ [(⟨zt, zn, zx, zy⟩ : St)] := by rw [List.take_succ_eq_append_getElem hjl, List.filter_append, hz]; simp [h28]
    have hdr : Mm.drop (j + 1) = l.drop (j + 1) := by rw [List.drop_eq_getElem_cons hjl, List.drop_eq_getElem_cons hjM] at hM2; injection hM2
    have htk : (Mm.set i (⟨zt, zn, zx, zy⟩ : St)).take (i + 1) = Mm.take i ++ [(⟨zt, zn, zx, zy⟩ : St)] := by
     rw [List.take_succ_eq_append_getElem (by rw [List.length_set]; omega), List.getElem_set_self, List.take_set_of_le (Nat.le_refl i)]
    have hds : (Mm.set i (⟨zt, zn, zx, zy⟩ : St)).drop (j + 1) = Mm.drop (j + 1) := List.drop_set_of_lt (by omega)
    exact xR (i + 1, j + 1, Mm.set i (⟨zt, zn, zx, zy⟩ : St)) ⟨⟨by dsimp only; omega, by dsimp only; omega⟩, by dsimp only; rw [List.length_set]; exact hML, by dsimp only; rw [htk, hM1, hst], by dsimp only; rw [hds, hdr]⟩ (by dsimp only; omega) (hl := ⟨rfl, rfl, (congrArg some (by go_num)), (congrArg some (by go_num)), trivial⟩)
  ·refine s9 ?_
   obtain rfl : j = l.length := by omega
   refine J_fact (fun hw => ?_)
   obtain ⟨hc1, hc2⟩ := (own_cn hw (ty := 43) (k := 4) (m := l.length) (c := c) (A := some ⟨g, 0, none⟩) (xs := Mm.flatMap eT) (by repeat constructor)).1
   clear hw
   have hfi : Mm.take i = l.filter (fun x => !p x) := by rw [hM1, List.take_length]
   have hil : (Mm.take i).length = i := by rw [List.length_take]; omega
   refine kJ [(0, _), (5, _)] ?_
   refine s3 ?_
   refine aP (rp_sliceFrom (k := i) rfl rfl rfl Und.h Siz.h rfl (by omega)) ?_
   refine aW0 (oClr (t := 24) ET Mm [.int .i64 0, .int .i64 0, .int .i64 0, .int .i64 0] hML.symm (show i ≤ Mm.length by omega)) ?_
   refine s6 ?_
   refine aP (rp_sliceTo (k := i) rfl rfl rfl Und.h Siz.h rfl (by omega)) ?_
   refine s4 ?_
   refine JR_one rfl (rr_tmp rfl) ?_
   intro w' hw
   exact ⟨(), trivial, by rw [← hfi, hil], by dsimp only; rw [← hfi, hil]; exact hw.pick (by repeat constructor)⟩
theorem fidx_any {α : Type} (p : α → Bool) (l : List α) : decide (0 ≤ fidx p l) = l.any p := by
 by_cases h : 0 ≤ fidx p l
 ·obtain ⟨k, hk, -, h1, -⟩ := fidx_in h
  rw [decide_eq_true h, List.any_eq_true.2 ⟨_, List.getElem_mem hk, h1⟩]
 ·rw [decide_eq_false h]
  have : ¬ l.any p = true := fun h1 => by
   obtain ⟨x, hx, hp⟩ := List.any_eq_true.1 h1
   rw [fidx_out h x hx] at hp; cases hp
  simpa using this
/-- Outcomes without those that are there already. -/
def ddO (L : List Oc) : List Oc := L.foldl (fun r o => if r.any (fun p => decide (oP p = oP o)) = true then r else r ++ [o]) []
def ddP (L : List (List St × Bool)) : List (List St × Bool) := L.foldl (fun r o => if r.any (fun p => decide (p = o)) = true then r else r ++ [o]) []
theorem dd_s {L : List Oc} {k : Nat} {x : Oc} (hk : k < L.length) (hx : L[k]'hk = x) : ddO (L.take (k + 1)) = if (ddO (L.take k)).any (fun p => decide (oP p = oP x)) = true then ddO (L.take k) else ddO (L.take k) ++ [x] := by
 rw [List.take_succ_eq_append_getElem hk, hx]; unfold ddO; rw [List.foldl_append]; rfl
theorem dd_sub : ∀ (L r R : List Oc), r.Sublist R → (L.foldl (fun r o => if r.any (fun p => decide (oP p = oP o)) = true then r else r ++ [o]) r).Sublist (R ++ L)
 | [], r, R, h => by simpa using h
 | o :: L, r, R, h => by
  rw [List.foldl_cons]
  have e : R ++ o :: L = (R ++ [o]) ++ L := by simp
  rw [e]
  refine dd_sub L _ (R ++ [o]) ?_
  split
  ·exact h.trans (List.sublist_append_left _ _)
  ·exact h.append (List.Sublist.refl _)
theorem ddO_sub (L : List Oc) : (ddO L).Sublist L := dd_sub L [] [] (List.Sublist.refl _)
theorem ddO_len (L : List Oc) : (ddO L).length ≤ L.length := (ddO_sub L).length_le
theorem ddO_map (L : List Oc) : (ddO L).map oP = ddP (L.map oP) := by
 have H : ∀ (L r : List Oc), (L.foldl (fun r o => if r.any (fun p => decide (oP p = oP o)) = true then r else r ++ [o]) r).map oP = (L.map oP).foldl (fun r o => if r.any (fun p => decide (p = o)) = true then r else r ++ [o]) (r.map oP) := by
  intro L
  induction L with
  | nil => intro r; rfl
  | cons o L ih =>
   intro r
   rw [List.foldl_cons, List.map_cons, List.foldl_cons, ih]
   congr 1
   have e : (r.map oP).any (fun p => decide (p = oP o)) = r.any (fun p => decide (oP p = oP o)) := by rw [List.any_map]; rfl
   rw [e]
   split <;> simp
 exact H L []
/-- A predicate of outcomes, as a closure. -/
def PrO (f : FuncId) (caps : Array Value) (p : Oc → Bool) (l : List Oc) (w0 : World) : Prop := ∀ x ∈ l, ∀ W, Below w0.heap.size w0 W → Calls Tryz.prog f (#[] ++ #[Ocv x] ++ caps) W (Back (.bool (p x)) W)
theorem PrO.up {f : FuncId} {caps : Array Value} {p : Oc → Bool} {l : List Oc} {w w1 : World} (h : PrO f caps p l w) (hb : Below w.heap.size w w1) : PrO f caps p l w1 := fun x hx W hW => h x hx W (hb.trans (hW.mono hb.size))
set_option maxRecDepth 100000 in
set_option maxHeartbeats 4000000 in
theorem IndexFuncO (f : FuncId) (caps : Array Value) (p : Oc → Bool) (l : List Oc) (v : Value) (w : World) [hf : Cf Tryz.prog f] (hcl : PrO f caps p l w) (hrow : Arr 2 eO w v l) : Calls Tryz.prog 174 #[v, .func (.func f) #[] caps] w (Back (.int .i64 (fidx p l)) w) := by
 have hrow0 := hrow
 obtain ⟨A, cap, rfl, -, ⟨hl9, -⟩, hA⟩ := hrow
 refine J_enter (fun _ => False) (vs := [.slice A l.length cap, .func (.func f) #[] caps]) (k := 17) (l := [(0, .slice A l.length cap), (1, .func (.func f) #[] caps)]) Tryz.func174 rfl rfl Tryz.ntmps174 rfl rfl (Wd.start _) ?_
 refine s14 ?_
 refine xL (T := Nat) (fun k => k ≤ l.length ∧ ∀ j (hj : j < l.length), j < k → p (l[j]'hj) = false) (fun k => [(0, .slice A l.length cap), (1, .func (.func f) #[] caps), (7, .int .i64 (l.length : Nat)), (8, .int .i64 (k : Nat))]) (fun k => []) (fun k => l.length - k) 0 ⟨Nat.zero_le _, fun j _ h => absurd h (Nat.not_lt_zero _)⟩ ?_
 rintro k ⟨hk, hall⟩
 refine s3 ?_
 refine JL_dec (fun h9 => ?_) (fun h9 => ?_)
 ·refine s15 ?_
  have hltx : k < l.length := by omega
  obtain ⟨bkx, qx, rfl, hh⟩ := hA (by intro e; rw [e] at hltx; simp at hltx)
  obtain ⟨⟨⟨xA, xn, xk, xl⟩, xg⟩, hx⟩ : ∃ y, l[k]'hltx = y := ⟨_, rfl⟩
  have hmx : (⟨⟨xA, xn, xk, xl⟩, xg⟩ : Oc) ∈ l := by rw [← hx]; exact List.getElem_mem _
  refine s5 ?_
  refine aV (vHoldA (cs := [.slice xA xn xk, .bool xg]) EO rfl rfl (fun h => h) hh hltx (by rw [hx]; rfl)) ?_
  refine aW (ow_callB (ec_val rfl rfl rfl Cf.h) rfl rfl (fun w hw => hcl (⟨⟨xA, xn, xk, xl⟩, xg⟩ : Oc) hmx w hw.bel)) (fun _ _ => ?_)
  refine JL_bool (fun h16 => ?_) (fun h16 => ?_)
  ·refine s4 ?_
   refine kJ [(5, _)] ?_
   refine s11 ?_
   refine JR_one rfl (rr_tmp rfl) ?_
   intro w' hw
   exact ⟨by rw [fidx_at hltx (by rw [hx]; exact h16) (fun j hj => hall j (by omega) hj)], hw.bel⟩
  ·refine s6 ?_
   refine kJ [(0, _), (1, _), (7, _), (8, _)] ?_
   refine s4 ?_
   have hn : ∀ j (hj : j < l.length), j < k + 1 → p (l[j]'hj) = false := fun j hj hjk => by
    rcases Nat.lt_or_ge j k with h | h
    ·exact hall j hj h
    ·obtain rfl : j = k := by omega
     rw [hx]; exact h16
   exact xR (k + 1) ⟨by omega, hn⟩ (by omega) (hl := ⟨rfl, rfl, rfl, (congrArg some (by go_num)), trivial⟩)
 ·refine s10 ?_
  refine kJ [] ?_
  refine s5 ?_
  refine JR_one rfl (rr_tmp rfl) ?_
  intro w' hw
  exact ⟨by rw [fidx_none (fun j hj => hall j hj (by omega))], hw.bel⟩
set_option maxRecDepth 100000 in
set_option maxHeartbeats 4000000 in
theorem ContainsFuncO (f : FuncId) (caps : Array Value) (p : Oc → Bool) (l : List Oc) (v : Value) (w : World) [hf : Cf Tryz.prog f] (hcl : PrO f caps p l w) (hrow : Arr 2 eO w v l) : Calls Tryz.prog 128 #[v, .func (.func f) #[] caps] w (Back (.bool (l.any p)) w) := by
 have hrow0 := hrow
 obtain ⟨A, cap, rfl, -, ⟨hl9, -⟩, hA⟩ := hrow
 refine J_enter (fun _ => False) (vs := [.slice A l.length cap, .func (.func f) #[] caps]) (k := 7) (l := [(0, .slice A l.length cap), (1, .func (.func f) #[] caps)]) Tryz.func128 rfl rfl Tryz.ntmps128 rfl rfl (Wd.start _) ?_
 refine s9 ?_
 refine aCB (fun w hw => IndexFuncO f caps p l _ w (hcl.up hw.bel) (hrow0.up EO hw.bel)) ?_
 refine s5 ?_
 refine JR_one rfl (rr_tmp rfl) ?_
 intro w' hw
 exact ⟨by rw [fidx_any], hw.bel⟩
set_option maxRecDepth 100000 in
set_option maxHeartbeats 4000000 in
theorem dis1_any (a b : Oc) (c : Nat) (w : World) (ha : OcW w a) (hb : OcW w b) (hc : (cellB c (eO b) 175).holds w) : Calls Tryz.prog 129 (#[] ++ #[Ocv a] ++ #[.pointer (some ⟨c, 0, none⟩)]) w (Back (.bool (decide (oP a = oP b))) w) := by
 obtain ⟨⟨Aa, na, ka, la⟩, ga⟩ := a
 obtain ⟨⟨Ab, nb, kb, lb⟩, gb⟩ := b
 unfold OcW at ha hb
 unfold eO at hc
 dsimp only [Dv.v] at ha hb hc
 refine J_enter (fun _ => False) (vs := [.agg #[.slice Aa na ka, .bool ga], .pointer (some ⟨c, 0, none⟩)]) (k := 14) (l := [(0, .agg #[.slice Aa na ka, .bool ga]), (1, .pointer (some ⟨c, 0, none⟩))]) Tryz.func129 rfl rfl Tryz.ntmps129 rfl rfl (Wd.start _) ?_
 refine s2 ?_
 refine aW (oX [_, _]) (fun b2 hb2 => ?_)
 refine s7 ?_
 refine JL_bool (fun h5 => ?_) (fun h5 => ?_)
 ·refine s1 ?_
  refine aV (vOld rfl rfl (fun h => h) (cellB_get hc rfl)) ?_
  refine JL_bool (fun h7 => ?_) (fun h7 => ?_)
  ·refine aP (pEqlB rfl rfl rfl) ?_
   refine aDecT ?_ (by decide)
   refine s4 ?_
   refine aV (vOld rfl rfl (fun h => h) (cellB_get hc rfl)) ?_
   refine aCB (fun w hw => EqualT la lb _ _ w (ha.up ET hw.bel) (hb.up ET hw.bel)) ?_
   refine s5 ?_
   refine JR_one rfl (rr_tmp rfl) ?_
   intro w' hw
   exact ⟨by congr 2; rw [decide_eq_decide]; unfold oP; simp [h5, h7], hw.bel⟩
  ·refine aP (pEqlB rfl rfl rfl) ?_
   refine aDecF ?_ (by decide)
   refine s11 ?_
   refine JR_one rfl (rr_tmp rfl) ?_
   intro w' hw
   exact ⟨by congr 2; exact (decide_eq_false (fun h => by have := congrArg Prod.snd h; unfold oP at this; dsimp only at this; rw [h5, h7] at this; cases this)).symm, hw.bel⟩
 ·refine s1 ?_
  refine aV (vOld rfl rfl (fun h => h) (cellB_get hc rfl)) ?_
  refine JL_bool (fun h7 => ?_) (fun h7 => ?_)
  ·refine aP (pEqlB rfl rfl rfl) ?_
   refine aDecF ?_ (by decide)
   refine s11 ?_
   refine JR_one rfl (rr_tmp rfl) ?_
   intro w' hw
   exact ⟨by congr 2; exact (decide_eq_false (fun h => by have := congrArg Prod.snd h; unfold oP at this; dsimp only at this; rw [h5, h7] at this; cases this)).symm, hw.bel⟩
  ·refine aP (pEqlB rfl rfl rfl) ?_
   refine aDecT ?_ (by decide)
   refine s4 ?_
   refine aV (vOld rfl rfl (fun h => h) (cellB_get hc rfl)) ?_
   refine aCB (fun w hw => EqualT la lb _ _ w (ha.up ET hw.bel) (hb.up ET hw.bel)) ?_
   refine s5 ?_
   refine JR_one rfl (rr_tmp rfl) ?_
   intro w' hw
   exact ⟨by congr 2; rw [decide_eq_decide]; unfold oP; simp [h5, h7], hw.bel⟩
set_option maxRecDepth 100000 in
set_option maxHeartbeats 4000000 in
theorem distinct_any (l : List Oc) (v : Value) (w : World) (hrow : Arr 2 eO w v l) (ho : ∀ p ∈ l, OcW w p) (hl : l.length ≤ 1000) : Calls Tryz.prog 78 #[v] w (RetS 175 2 eO (ddO l) w) := by
 have hrow0 := hrow
 obtain ⟨A, cap, rfl, -, ⟨hl9, -⟩, hA⟩ := hrow
 refine J_enter (fun _ => False) (vs := [.slice A l.length cap]) (k := 21) (l := [(0, .slice A l.length cap)]) Tryz.func78 rfl rfl Tryz.ntmps78 rfl rfl (Wd.start _) ?_
 refine s12 ?_
 refine J_own0 175 2 ?_
 refine s7 ?_
 refine xL (T := Nat × Option Addr × Nat) (fun q => q.1 ≤ l.length) (fun q => [(3, .slice q.2.1 (ddO (l.take q.1)).length q.2.2), (6, .slice A l.length cap), (7, .int .i64 (l.length : Nat)), (8, .int .i64 (q.1 : Nat))]) (fun q => [ownB 175 2 q.2.1 (ddO (l.take q.1)).length q.2.2 ((ddO (l.take q.1)).flatMap eO)]) (fun q => l.length - q.1) (0, none, 0) (Nat.zero_le _) ?_
 rintro ⟨k, vA, vc⟩ hk
 dsimp only at hk ⊢
 have hdl := ddO_len (l.take k)
 rw [List.length_take] at hdl
 refine s3 ?_
 refine JL_dec (fun h9 => ?_) (fun h9 => ?_)
 ·refine s9 ?_
  have hltx : k < l.length := by omega
  obtain ⟨bkx, qx, rfl, hh⟩ := hA (by intro e; rw [e] at hltx; simp at hltx)
  obtain ⟨⟨⟨xA, xn, xk, xl⟩, xg⟩, hx⟩ : ∃ y, l[k]'hltx = y := ⟨_, rfl⟩
  have hmx : (⟨⟨xA, xn, xk, xl⟩, xg⟩ : Oc) ∈ l := by rw [← hx]; exact List.getElem_mem _
  refine s2 ?_
  refine aV (vHoldA (cs := [.slice xA xn xk, .bool xg]) EO rfl rfl (fun h => h) hh hltx (by rw [hx]; rfl)) ?_
  refine aW oA (fun b5 hb5 => ?_)
  refine s7 ?_
  refine aCB (fun w hw => ContainsFuncO 129 #[.pointer (some ⟨b5, 0, none⟩)] (fun p => decide (oP p = oP (⟨⟨xA, xn, xk, xl⟩, xg⟩ : Oc))) (ddO (l.take k)) _ w (fun a ha W hW => dis1_any a (⟨⟨xA, xn, xk, xl⟩, xg⟩ : Oc) b5 W ((ho a ((List.take_subset _ _) ((ddO_sub _).subset ha))).up (hw.up hW).bel) ((ho _ hmx).up (hw.up hW).bel) ((hw.up hW).ok (cellB b5 [.slice xA xn xk, .bool xg] 175) (by repeat constructor)).1) (own_arr (A := vA) (c := vc) EO hw (by repeat constructor) (by omega))) ?_
  refine JL_bool (fun h14 => ?_) (fun h14 => ?_)
  ·refine s7 ?_
   refine kJ [(3, _), (6, _), (7, _), (8, _)] ?_
   refine s4 ?_
   have hs := dd_s hltx hx
   rw [if_pos h14] at hs
   exact xR (k + 1, vA, vc) (by dsimp only; omega) (by dsimp only; omega) (hl := ⟨(by dsimp only; rw [hs]; rfl), rfl, rfl, (congrArg some (by go_num)), trivial⟩) (hH := by (try dsimp only); rw [hs]; repeat constructor)
  ·refine s4 ?_
   refine kJ [(3, _), (5, _), (6, _), (7, _), (8, _)] ?_
   refine s3 ?_
   refine aW (ow_sliceC (vs := [_, _]) (ty := 175) rfl rfl (by rfl) rfl rfl (fun _ => by kernel_rfl)) (fun b18 hb18 => ?_)
   refine aS (oApp (sl := 28) EO ((⟨⟨xA, xn, xk, xl⟩, xg⟩ : Oc))) (fun A19 c19 => ?_)
   refine s4 ?_
   refine kJ [(3, _), (6, _), (7, _), (8, _)] ?_
   refine s4 ?_
   have hs := dd_s hltx hx
   rw [if_neg (by rw [h14]; simp)] at hs
   exact xR (k + 1, A19, c19) (by dsimp only; omega) (by dsimp only; omega) (hl := ⟨(by dsimp only; rw [hs]; rfl), rfl, rfl, (congrArg some (by go_num)), trivial⟩) (hH := by (try dsimp only); rw [hs]; repeat constructor)
 ·refine s10 ?_
  refine kJ [(3, _)] ?_
  refine s6 ?_
  refine JR_one rfl (rr_tmp rfl) ?_
  intro w' hw
  obtain rfl : k = l.length := by omega
  rw [List.take_length] at *
  exact ⟨vA, vc, rfl, hw.pick (by repeat constructor)⟩
set_option maxRecDepth 100000 in
set_option maxHeartbeats 4000000 in
theorem as_any (l : List St) (v : Value) (w : World) (hrow : Arr 4 eT w v l) (hl : l.length ≤ 1000) (hb : ∀ s ∈ l, bnd s) (hd : dis l) : Calls Tryz.prog 77 #[v] w (Ret w (fun _ : Option Addr × Nat => True) (fun t => .agg #[.slice t.1 (srt l).length t.2, .bool false]) (fun t => [ownB 43 4 t.1 (srt l).length t.2 ((srt l).flatMap eT)])) := by
 have hrow0 := hrow
 obtain ⟨A, cap, rfl, -, ⟨hl9, -⟩, hA⟩ := hrow
 refine J_enter (fun _ => False) (vs := [.slice A l.length cap]) (k := 5) (l := [(0, .slice A l.length cap)]) Tryz.func77 rfl rfl Tryz.ntmps77 rfl rfl (Wd.start _) ?_
 refine s2 ?_
 refine aW oA (fun b2 hb2 => ?_)
 refine s5 ?_
 refine aS (oS (fun w hw => sortedT l _ w (hrow0.up ET hw.bel) hl hb hd)) (fun A4 c4 => ?_)
 refine aP (rp_buildC (fun us => [us.getD 0 undef, .bool false]) rfl rfl (fun w => by kernel_rfl)) ?_
 refine s4 ?_
 refine JR_one rfl (rr_agg (cs := [_, _]) rfl Agg.h (Siz.h (k := 2)) (by repeat constructor) (by rfl)) ?_
 intro w' hw
 exact ⟨(A4, c4), trivial, rfl, hw.pick (by repeat constructor)⟩
set_option maxRecDepth 100000 in
set_option maxHeartbeats 4000000 in
theorem own_any (s : St) (x : Th) (A : Option Addr) (n c b : Nat) (w : World) (hc : (cellB b [.int .i64 x.team, .int .i64 x.n, .bool x.late, .bool x.short, .int .i64 x.how, .slice A n c] 26).holds w) : Calls Tryz.prog 79 (#[] ++ #[Stv s] ++ #[.pointer (some ⟨b, 0, none⟩)]) w (Back (.bool (isB x.team x.n s)) w) := by
 obtain ⟨st_, sn, sx, sy⟩ := s
 obtain ⟨xteam, xnn, xlate, xshort, xhow⟩ := x
 refine J_enter (fun _ => False) (vs := [.agg #[.int .i64 st_, .int .i64 sn, .int .i64 sx, .int .i64 sy], .pointer (some ⟨b, 0, none⟩)]) (k := 14) (l := [(0, .agg #[.int .i64 st_, .int .i64 sn, .int .i64 sx, .int .i64 sy]), (1, .pointer (some ⟨b, 0, none⟩))]) Tryz.func79 rfl rfl Tryz.ntmps79 rfl rfl (Wd.start _) ?_
 refine s2 ?_
 refine aW (oX [_, _, _, _]) (fun b2 hb2 => ?_)
 refine s8 ?_
 refine aV (vOld rfl rfl (fun h => h) (cellB_get hc rfl)) ?_
 refine s1 ?_
 refine JL_dec (fun h8 => ?_) (fun h8 => ?_)
 ·refine s4 ?_
  refine aV (vOld rfl rfl (fun h => h) (cellB_get hc rfl)) ?_
  refine s6 ?_
  refine JR_one rfl (rr_tmp rfl) ?_
  intro w' hw
  exact ⟨by unfold isB; dsimp only; rw [h8, beq_self_eq_true, Bool.true_and]; congr 2, hw.bel⟩
 ·refine s11 ?_
  refine JR_one rfl (rr_tmp rfl) ?_
  intro w' hw
  exact ⟨by unfold isB; dsimp only; rw [beq_eq_false_iff_ne.2 h8]; rfl, hw.bel⟩
end Go.Proofs.YtmcpnoailbmkkaaGreatDoor
/- Layer 7: judge. -/
namespace Go.Proofs.YtmcpnoailbmkkaaGreatDoor
open Go Go.RowKit Go.Proofs
attribute [local irreducible] J JQ JL JA JD

/-- Does line k (from 0) ask so? -/
def askB (x : Th) (rm mv sf : Bool) : Nat → Bool
 | 0 => x.late
 | 1 => decide (x.how = 1)
 | 2 => x.short
 | 3 => decide (x.how = 3)
 | 4 => decide (x.how = 2)
 | 5 => decide (x.how = 4)
 | 6 => rm && !sf
 | 7 => rm
 | 8 => mv
 | _ => false
def rulG (p : Nat → Bool) : Nat → Nat → Int
 | 0, _ => 0
 | n + 1, k => if p k = true then (k : Int) + 1 else rulG p n (k + 1)
/-- The rule's number. -/
def rulF (x : Th) (rm mv sf : Bool) : Int := rulG (askB x rm mv sf) 9 0
theorem rul_y {p : Nat → Bool} {R : Int} (n k : Nat) (h : R = rulG p (n + 1) k) (hp : p k = true) : (k : Int) + 1 = R := by rw [h]; unfold rulG; rw [if_pos hp]
theorem rul_n {p : Nat → Bool} {R : Int} (n k : Nat) (h : R = rulG p (n + 1) k) (hp : p k = false) : R = rulG p n (k + 1) := by rw [h]; show (if _ then _ else _) = _; rw [if_neg (by rw [hp]; decide)]
/-- The outcomes by a rule; who chooses. -/
def outF (l m : List St) (x : Th) (r : Int) : List (List St × Bool) :=
 if r = 0 then ddP [(srt m, false)] else if r = 4 then ddP [(srt l, true)] else if r = 5 then ddP [(srt l, false), (srt m, false), (srt (m.filter (fun s => !isB x.team x.n s)), false)] else if r = 6 then ddP [(srt m, false), (srt l, true)] else if r = 9 then ddP [(srt m, false), (srt l, false)] else ddP [(srt l, false)]
def choF (x : Th) (r : Int) : Int := if r = 5 then 1 - x.team else if r = 6 then x.team else if r = 9 then 1 - x.team else -1
/-- An outcome's row. -/
abbrev rwB (p : Oc) : It := ownB 43 4 p.d.A p.d.n p.d.c (p.d.l.flatMap eT)
/-- Outcomes in memory. -/
structure OcT where
 A : Option Addr
 c : Nat
 L : List Oc
abbrev ocI (t : OcT) : List It := [ownB 175 2 t.A t.L.length t.c (t.L.flatMap eO), grpB (t.L.map rwB)]
/-- The outcomes are such, with rows of at most 16 stones. -/
def OcP (os : List (List St × Bool)) (t : OcT) : Prop := t.L.map oP = os ∧ ∀ p ∈ t.L, p.d.n = p.d.l.length ∧ p.d.l.length ≤ 16
abbrev Ruv (r h : Int) (t : OcT) : Value := .agg #[.int .i64 r, .int .i64 h, .slice t.A t.L.length t.c]
theorem map_nro {α : Type} {f : α → It} (h : ∀ x, (f x).ro = false) (L : List α) : ((L.map f).all fun A => !A.ro) = true := by rw [List.all_map]; exact List.all_eq_true.2 (fun x _ => by simp [h])
theorem dis_flt {l : List St} (p : St → Bool) (h : dis l) : dis (l.filter p) := fun a ha b hb h1 h2 => h a (List.mem_filter.1 ha).1 b (List.mem_filter.1 hb).1 h1 h2
theorem jud_out {w w' : World} {L0 : List Oc} {A : Option Addr} {c : Nat} {os : List (List St × Bool)} {H : List It} (hw : Wd (bs w) H w') (hk : Pk (L0.map rwB ++ [ownB 175 2 A (ddO L0).length c ((ddO L0).flatMap eO)]) H) (hL : ddP (L0.map oP) = os) (hn : ∀ p ∈ L0, p.d.n = p.d.l.length ∧ p.d.l.length ≤ 16) :
  OcP os ⟨A, c, ddO L0⟩ ∧ Wd (bs w) (ocI ⟨A, c, ddO L0⟩) w' := by
 refine ⟨⟨by rw [ddO_map]; exact hL, fun p hp => hn p ((ddO_sub L0).subset hp)⟩, ?_⟩
 have h := hw.closeS hk (map_nro (fun _ => rfl) L0) ((ddO_sub L0).map rwB)
 exact h.pick (.pick (.there _ (.here _)) (.pick (.here _) (.nil _)))
instance : Cf Tryz.prog 123 := ⟨fun _ _ => by kernel_rfl⟩
instance : Cf Tryz.prog 124 := ⟨fun _ _ => by kernel_rfl⟩
instance : Cf Tryz.prog 125 := ⟨fun _ _ => by kernel_rfl⟩
instance : Cf Tryz.prog 126 := ⟨fun _ _ => by kernel_rfl⟩
instance : Cf Tryz.prog 127 := ⟨fun _ _ => by kernel_rfl⟩
instance : Cf Tryz.prog 77 := ⟨fun _ _ => by kernel_rfl⟩
set_option maxRecDepth 100000 in
set_option maxHeartbeats 4000000 in
theorem judge_any (c : Cd) (n team : Int) (l m : List St) (x : Th) (v : Value) (A2 : Option Addr) (cap2 : Nat) (w : World) (hrow : Arr 4 eT w v l) (hrow2 : Arr 4 eT w (.slice A2 m.length cap2) m) (hcl : chkB l = true) (hcm : chkB m = true) (hxt : 0 ≤ x.team ∧ x.team ≤ 1) : Calls Tryz.prog 28 #[Tnv c n team, v, Thv x A2 m.length cap2] w (Ret w (OcP (outF l m x (rulF x (remB c n team m l) (movB c n team m l) (decide (n < c.s))))) (Ruv (rulF x (remB c n team m l) (movB c n team m l) (decide (n < c.s))) (choF x (rulF x (remB c n team m l) (movB c n team m l) (decide (n < c.s))))) ocI) := by
 obtain ⟨kf, kt, ks, ke, kp⟩ := c
 obtain ⟨xteam, xnn, xlate, xshort, xhow⟩ := x
 have hrow0 := hrow
 obtain ⟨A, cap, rfl, -, ⟨hl9, -⟩, hA⟩ := hrow
 have hrow20 := hrow2
 have hbl := chk_bnd hcl
 have hbm := chk_bnd hcm
 have hdl := chk_dis hcl
 have hdm := chk_dis hcm
 have hl16 := (chk_facts hcl).1
 have hm16 := (chk_facts hcm).1
 have hbf : ∀ s ∈ m.filter (fun s => !isB xteam xnn s), bnd s := fun s hs => hbm s (List.mem_filter.1 hs).1
 have hdf := dis_flt (fun s => !isB xteam xnn s) hdm
 have hfl := List.length_filter_le (fun s => !isB xteam xnn s) m
 dsimp only at hxt
 dsimp only [Thv, Tnv]
 refine J_enter (fun _ => False) (vs := [.agg #[.int .i64 kf, .int .i64 kt, .int .i64 ks, .int .i64 ke, .bool kp, .int .i64 n, .int .i64 team], .slice A l.length cap, .agg #[.int .i64 xteam, .int .i64 xnn, .bool xlate, .bool xshort, .int .i64 xhow, .slice A2 m.length cap2]]) (k := 110) (l := [(0, .agg #[.int .i64 kf, .int .i64 kt, .int .i64 ks, .int .i64 ke, .bool kp, .int .i64 n, .int .i64 team]), (1, .slice A l.length cap), (2, .agg #[.int .i64 xteam, .int .i64 xnn, .bool xlate, .bool xshort, .int .i64 xhow, .slice A2 m.length cap2])]) Tryz.func28 rfl rfl Tryz.ntmps28 rfl rfl (Wd.start _) ?_
 refine s2 ?_
 refine aW (oX [_, _, _, _, _, _, _]) (fun b3 hb3 => ?_)
 refine aW (oX [_, _, _, _, _, _]) (fun b5 hb5 => ?_)
 refine aW oA (fun b6 hb6 => ?_)
 refine s2 ?_
 refine J_scope ?_
 refine s5 ?_
 refine aCB (fun w hw => seen_any (⟨kf, kt, ks, ke, kp⟩ : Cd) n team l m (⟨xteam, xnn, xlate, xshort, xhow⟩ : Th) _ A2 cap2 w (hrow0.up ET hw.bel) (hrow20.up ET hw.bel) (fun s hs => bnd64 (hbl s hs)) (fun s hs => bnd64 (hbm s hs)) (by omega)) ?_
 obtain ⟨rm, hrm⟩ : ∃ b, b = remB (⟨kf, kt, ks, ke, kp⟩ : Cd) n team m l := ⟨_, rfl⟩
 obtain ⟨mv, hmv⟩ : ∃ b, b = movB (⟨kf, kt, ks, ke, kp⟩ : Cd) n team m l := ⟨_, rfl⟩
 obtain ⟨sf, hsf⟩ : ∃ b, b = decide (n < ks) := ⟨_, rfl⟩
 rw [← hrm, ← hmv, ← hsf]
 refine aW oA (fun b7 hb7 => ?_)
 refine aW0 (wStore (cs := [_, _, _, _, _, _, _, _, _]) rfl rfl rfl rfl rfl rfl rfl (by repeat constructor) rfl rfl) ?_
 refine s3 ?_
 refine kJ [(1, _), (5, _), (6, _), (7, _)] ?_
 refine s1 ?_
 refine aP (rp_buildC (fun us => [us.getD 0 undef, us.getD 1 undef, .slice none 0 0]) rfl rfl (fun w => by kernel_rfl)) ?_
 refine aW oA (fun b8 hb8 => ?_)
 refine s6 ?_
 refine xC (T := Int) (fun r => r = rulF (⟨xteam, xnn, xlate, xshort, xhow⟩ : Th) rm mv sf) (fun r => [(1, .slice A l.length cap), (5, .pointer (some ⟨b5, 0, none⟩)), (6, .pointer (some ⟨b6, 0, none⟩)), (8, .pointer (some ⟨b8, 0, none⟩))]) (fun r => [cellB b5 [.int .i64 xteam, .int .i64 xnn, .bool xlate, .bool xshort, .int .i64 xhow, .slice A2 m.length cap2] 26, cellB b6 [.int .i64 0, .int .i64 0, .slice none 0 0] 30, cellB b8 [.int .i64 r, .int .i64 (-1), .slice none 0 0] 30]) ?_ ?_
 ·refine s2 ?_
  refine aW (oR (fun w hw => lines_any w)) (fun t19 _ => ?_)
  obtain ⟨g1, g2, g3, g4, g9⟩ := t19
  dsimp only
  refine s5 ?_
  refine xL (T := Nat) (fun k => k ≤ 9 ∧ rulF (⟨xteam, xnn, xlate, xshort, xhow⟩ : Th) rm mv sf = rulG (askB (⟨xteam, xnn, xlate, xshort, xhow⟩ : Th) rm mv sf) (9 - k) k) (fun k => [(1, .slice A l.length cap), (5, .pointer (some ⟨b5, 0, none⟩)), (6, .pointer (some ⟨b6, 0, none⟩)), (7, .pointer (some ⟨b7, 0, none⟩)), (8, .pointer (some ⟨b8, 0, none⟩)), (19, .slice (some ⟨g9, 0, none⟩) 9 9), (20, .int .i64 (9 : Nat)), (21, .int .i64 (k : Nat))]) (fun k => [cellB b5 [.int .i64 xteam, .int .i64 xnn, .bool xlate, .bool xshort, .int .i64 xhow, .slice A2 m.length cap2] 26, cellB b6 [.int .i64 0, .int .i64 0, .slice none 0 0] 30, cellB b7 (evC (⟨xteam, xnn, xlate, xshort, xhow⟩ : Th) A2 m.length cap2 rm mv sf) 167, cellB b8 [.int .i64 0, .int .i64 (-1), .slice none 0 0] 30, cellB g9 ((linL g1 g2 g3 g4).flatMap eL) 173, cellB g1 [.int .i64 1] 3, cellB g2 [.int .i64 3] 3, cellB g3 [.int .i64 2] 3, cellB g4 [.int .i64 4] 3]) (fun k => 9 - k) 0 ⟨by omega, rfl⟩ ?_
  rintro k ⟨hk, hru⟩
  refine s3 ?_
  refine JL_dec (fun h22 => ?_) (fun h22 => ?_)
  ·refine s9 ?_
   rcases (show k = 0 ∨ k = 1 ∨ k = 2 ∨ k = 3 ∨ k = 4 ∨ k = 5 ∨ k = 6 ∨ k = 7 ∨ k = 8 by omega) with rfl | rfl | rfl | rfl | rfl | rfl | rfl | rfl | rfl
   ·refine s2 ?_
    refine aV (vAgg [_, _] rfl rfl rfl (by repeat constructor) rfl) ?_
    refine aW oA (fun b10 hb10 => ?_)
    refine s7 ?_
    refine aV (vAgg [_, _, _, _, _, _, _, _, _] rfl rfl rfl (by repeat constructor) rfl) ?_
    refine aW (ow_callB (ec_valE (args := #[Evv (⟨xteam, xnn, xlate, xshort, xhow⟩ : Th) A2 m.length cap2 rm mv sf]) rfl rfl rfl Cf.h rfl) rfl rfl (fun w hw => line123 (⟨xteam, xnn, xlate, xshort, xhow⟩ : Th) A2 m cap2 rm mv sf w)) (fun _ _ => ?_)
    refine JL_bool (fun h28 => ?_) (fun h28 => ?_)
    ·refine s4 ?_
     refine kJ [(1, _), (5, _), (6, _), (8, _), (10, _)] ?_
     refine s12 ?_
     exact xE (1 : Int) (rul_y 8 0 hru h28)
    ·refine s6 ?_
     refine kJ [(1, _), (5, _), (6, _), (7, _), (8, _), (19, _), (20, _), (21, _)] ?_
     refine s4 ?_
     exact xR (1) ⟨by omega, rul_n 8 0 hru h28⟩ (by omega) (hl := ⟨rfl, rfl, rfl, rfl, rfl, rfl, rfl, (congrArg some (by go_num)), trivial⟩)
   ·refine s2 ?_
    refine aV (vAgg [_, _] rfl rfl rfl (by repeat constructor) rfl) ?_
    refine aW oA (fun b10 hb10 => ?_)
    refine s7 ?_
    refine aV (vAgg [_, _, _, _, _, _, _, _, _] rfl rfl rfl (by repeat constructor) rfl) ?_
    refine aW (ow_callB (ec_valE (args := #[Evv (⟨xteam, xnn, xlate, xshort, xhow⟩ : Th) A2 m.length cap2 rm mv sf, .pointer (some ⟨g1, 0, none⟩)]) rfl rfl rfl Cf.h rfl) rfl rfl (fun w hw => line122 g1 1 (⟨xteam, xnn, xlate, xshort, xhow⟩ : Th) A2 m cap2 rm mv sf w (hw.ok (cellB g1 [.int .i64 1] 3) (by repeat constructor)).1)) (fun _ _ => ?_)
    refine JL_dec (fun h28 => ?_) (fun h28 => ?_)
    ·refine s4 ?_
     refine kJ [(1, _), (5, _), (6, _), (8, _), (10, _)] ?_
     refine s12 ?_
     exact xE (2 : Int) (rul_y 7 1 hru (decide_eq_true h28))
    ·refine s6 ?_
     refine kJ [(1, _), (5, _), (6, _), (7, _), (8, _), (19, _), (20, _), (21, _)] ?_
     refine s4 ?_
     exact xR (2) ⟨by omega, rul_n 7 1 hru (decide_eq_false h28)⟩ (by omega) (hl := ⟨rfl, rfl, rfl, rfl, rfl, rfl, rfl, (congrArg some (by go_num)), trivial⟩)
   ·refine s2 ?_
    refine aV (vAgg [_, _] rfl rfl rfl (by repeat constructor) rfl) ?_
    refine aW oA (fun b10 hb10 => ?_)
    refine s7 ?_
    refine aV (vAgg [_, _, _, _, _, _, _, _, _] rfl rfl rfl (by repeat constructor) rfl) ?_
    refine aW (ow_callB (ec_valE (args := #[Evv (⟨xteam, xnn, xlate, xshort, xhow⟩ : Th) A2 m.length cap2 rm mv sf]) rfl rfl rfl Cf.h rfl) rfl rfl (fun w hw => line124 (⟨xteam, xnn, xlate, xshort, xhow⟩ : Th) A2 m cap2 rm mv sf w)) (fun _ _ => ?_)
    refine JL_bool (fun h28 => ?_) (fun h28 => ?_)
    ·refine s4 ?_
     refine kJ [(1, _), (5, _), (6, _), (8, _), (10, _)] ?_
     refine s12 ?_
     exact xE (3 : Int) (rul_y 6 2 hru h28)
    ·refine s6 ?_
     refine kJ [(1, _), (5, _), (6, _), (7, _), (8, _), (19, _), (20, _), (21, _)] ?_
     refine s4 ?_
     exact xR (3) ⟨by omega, rul_n 6 2 hru h28⟩ (by omega) (hl := ⟨rfl, rfl, rfl, rfl, rfl, rfl, rfl, (congrArg some (by go_num)), trivial⟩)
   ·refine s2 ?_
    refine aV (vAgg [_, _] rfl rfl rfl (by repeat constructor) rfl) ?_
    refine aW oA (fun b10 hb10 => ?_)
    refine s7 ?_
    refine aV (vAgg [_, _, _, _, _, _, _, _, _] rfl rfl rfl (by repeat constructor) rfl) ?_
    refine aW (ow_callB (ec_valE (args := #[Evv (⟨xteam, xnn, xlate, xshort, xhow⟩ : Th) A2 m.length cap2 rm mv sf, .pointer (some ⟨g2, 0, none⟩)]) rfl rfl rfl Cf.h rfl) rfl rfl (fun w hw => line122 g2 3 (⟨xteam, xnn, xlate, xshort, xhow⟩ : Th) A2 m cap2 rm mv sf w (hw.ok (cellB g2 [.int .i64 3] 3) (by repeat constructor)).1)) (fun _ _ => ?_)
    refine JL_dec (fun h28 => ?_) (fun h28 => ?_)
    ·refine s4 ?_
     refine kJ [(1, _), (5, _), (6, _), (8, _), (10, _)] ?_
     refine s12 ?_
     exact xE (4 : Int) (rul_y 5 3 hru (decide_eq_true h28))
    ·refine s6 ?_
     refine kJ [(1, _), (5, _), (6, _), (7, _), (8, _), (19, _), (20, _), (21, _)] ?_
     refine s4 ?_
     exact xR (4) ⟨by omega, rul_n 5 3 hru (decide_eq_false h28)⟩ (by omega) (hl := ⟨rfl, rfl, rfl, rfl, rfl, rfl, rfl, (congrArg some (by go_num)), trivial⟩)
   ·refine s2 ?_
    refine aV (vAgg [_, _] rfl rfl rfl (by repeat constructor) rfl) ?_
    refine aW oA (fun b10 hb10 => ?_)
    refine s7 ?_
    refine aV (vAgg [_, _, _, _, _, _, _, _, _] rfl rfl rfl (by repeat constructor) rfl) ?_
    refine aW (ow_callB (ec_valE (args := #[Evv (⟨xteam, xnn, xlate, xshort, xhow⟩ : Th) A2 m.length cap2 rm mv sf, .pointer (some ⟨g3, 0, none⟩)]) rfl rfl rfl Cf.h rfl) rfl rfl (fun w hw => line122 g3 2 (⟨xteam, xnn, xlate, xshort, xhow⟩ : Th) A2 m cap2 rm mv sf w (hw.ok (cellB g3 [.int .i64 2] 3) (by repeat constructor)).1)) (fun _ _ => ?_)
    refine JL_dec (fun h28 => ?_) (fun h28 => ?_)
    ·refine s4 ?_
     refine kJ [(1, _), (5, _), (6, _), (8, _), (10, _)] ?_
     refine s12 ?_
     exact xE (5 : Int) (rul_y 4 4 hru (decide_eq_true h28))
    ·refine s6 ?_
     refine kJ [(1, _), (5, _), (6, _), (7, _), (8, _), (19, _), (20, _), (21, _)] ?_
     refine s4 ?_
     exact xR (5) ⟨by omega, rul_n 4 4 hru (decide_eq_false h28)⟩ (by omega) (hl := ⟨rfl, rfl, rfl, rfl, rfl, rfl, rfl, (congrArg some (by go_num)), trivial⟩)
   ·refine s2 ?_
    refine aV (vAgg [_, _] rfl rfl rfl (by repeat constructor) rfl) ?_
    refine aW oA (fun b10 hb10 => ?_)
    refine s7 ?_
    refine aV (vAgg [_, _, _, _, _, _, _, _, _] rfl rfl rfl (by repeat constructor) rfl) ?_
    refine aW (ow_callB (ec_valE (args := #[Evv (⟨xteam, xnn, xlate, xshort, xhow⟩ : Th) A2 m.length cap2 rm mv sf, .pointer (some ⟨g4, 0, none⟩)]) rfl rfl rfl Cf.h rfl) rfl rfl (fun w hw => line122 g4 4 (⟨xteam, xnn, xlate, xshort, xhow⟩ : Th) A2 m cap2 rm mv sf w (hw.ok (cellB g4 [.int .i64 4] 3) (by repeat constructor)).1)) (fun _ _ => ?_)
    refine JL_dec (fun h28 => ?_) (fun h28 => ?_)
    ·refine s4 ?_
     refine kJ [(1, _), (5, _), (6, _), (8, _), (10, _)] ?_
     refine s12 ?_
     exact xE (6 : Int) (rul_y 3 5 hru (decide_eq_true h28))
    ·refine s6 ?_
     refine kJ [(1, _), (5, _), (6, _), (7, _), (8, _), (19, _), (20, _), (21, _)] ?_
     refine s4 ?_
     exact xR (6) ⟨by omega, rul_n 3 5 hru (decide_eq_false h28)⟩ (by omega) (hl := ⟨rfl, rfl, rfl, rfl, rfl, rfl, rfl, (congrArg some (by go_num)), trivial⟩)
   ·refine s2 ?_
    refine aV (vAgg [_, _] rfl rfl rfl (by repeat constructor) rfl) ?_
    refine aW oA (fun b10 hb10 => ?_)
    refine s7 ?_
    refine aV (vAgg [_, _, _, _, _, _, _, _, _] rfl rfl rfl (by repeat constructor) rfl) ?_
    refine aW (ow_callB (ec_valE (args := #[Evv (⟨xteam, xnn, xlate, xshort, xhow⟩ : Th) A2 m.length cap2 rm mv sf]) rfl rfl rfl Cf.h rfl) rfl rfl (fun w hw => line125 (⟨xteam, xnn, xlate, xshort, xhow⟩ : Th) A2 m cap2 rm mv sf w)) (fun _ _ => ?_)
    refine JL_bool (fun h28 => ?_) (fun h28 => ?_)
    ·refine s4 ?_
     refine kJ [(1, _), (5, _), (6, _), (8, _), (10, _)] ?_
     refine s12 ?_
     exact xE (7 : Int) (rul_y 2 6 hru h28)
    ·refine s6 ?_
     refine kJ [(1, _), (5, _), (6, _), (7, _), (8, _), (19, _), (20, _), (21, _)] ?_
     refine s4 ?_
     exact xR (7) ⟨by omega, rul_n 2 6 hru h28⟩ (by omega) (hl := ⟨rfl, rfl, rfl, rfl, rfl, rfl, rfl, (congrArg some (by go_num)), trivial⟩)
   ·refine s2 ?_
    refine aV (vAgg [_, _] rfl rfl rfl (by repeat constructor) rfl) ?_
    refine aW oA (fun b10 hb10 => ?_)
    refine s7 ?_
    refine aV (vAgg [_, _, _, _, _, _, _, _, _] rfl rfl rfl (by repeat constructor) rfl) ?_
    refine aW (ow_callB (ec_valE (args := #[Evv (⟨xteam, xnn, xlate, xshort, xhow⟩ : Th) A2 m.length cap2 rm mv sf]) rfl rfl rfl Cf.h rfl) rfl rfl (fun w hw => line126 (⟨xteam, xnn, xlate, xshort, xhow⟩ : Th) A2 m cap2 rm mv sf w)) (fun _ _ => ?_)
    refine JL_bool (fun h28 => ?_) (fun h28 => ?_)
    ·refine s4 ?_
     refine kJ [(1, _), (5, _), (6, _), (8, _), (10, _)] ?_
     refine s12 ?_
     exact xE (8 : Int) (rul_y 1 7 hru h28)
    ·refine s6 ?_
     refine kJ [(1, _), (5, _), (6, _), (7, _), (8, _), (19, _), (20, _), (21, _)] ?_
     refine s4 ?_
     exact xR (8) ⟨by omega, rul_n 1 7 hru h28⟩ (by omega) (hl := ⟨rfl, rfl, rfl, rfl, rfl, rfl, rfl, (congrArg some (by go_num)), trivial⟩)
   ·refine s2 ?_
    refine aV (vAgg [_, _] rfl rfl rfl (by repeat constructor) rfl) ?_
    refine aW oA (fun b10 hb10 => ?_)
    refine s7 ?_
    refine aV (vAgg [_, _, _, _, _, _, _, _, _] rfl rfl rfl (by repeat constructor) rfl) ?_
    refine aW (ow_callB (ec_valE (args := #[Evv (⟨xteam, xnn, xlate, xshort, xhow⟩ : Th) A2 m.length cap2 rm mv sf]) rfl rfl rfl Cf.h rfl) rfl rfl (fun w hw => line127 (⟨xteam, xnn, xlate, xshort, xhow⟩ : Th) A2 m cap2 rm mv sf w)) (fun _ _ => ?_)
    refine JL_bool (fun h28 => ?_) (fun h28 => ?_)
    ·refine s4 ?_
     refine kJ [(1, _), (5, _), (6, _), (8, _), (10, _)] ?_
     refine s12 ?_
     exact xE (9 : Int) (rul_y 0 8 hru h28)
    ·refine s6 ?_
     refine kJ [(1, _), (5, _), (6, _), (7, _), (8, _), (19, _), (20, _), (21, _)] ?_
     refine s4 ?_
     exact xR (9) ⟨by omega, rul_n 0 8 hru h28⟩ (by omega) (hl := ⟨rfl, rfl, rfl, rfl, rfl, rfl, rfl, (congrArg some (by go_num)), trivial⟩)
  ·refine s8 ?_
   obtain rfl : k = 9 := by omega
   exact xE 0 (show (0 : Int) = rulF (⟨xteam, xnn, xlate, xshort, xhow⟩ : Th) rm mv sf from hru.symm)
 ·rintro r hr
  refine s8 ?_
  refine aS (oS (fun w hw => sortedT l _ w (hrow0.up ET hw.bel) (by omega) hbl hdl)) (fun A34 c34 => ?_)
  refine aP (rp_buildC (fun us => [us.getD 0 undef, us.getD 1 undef]) rfl rfl (fun w => by kernel_rfl)) ?_
  refine aW oA (fun b12 hb12 => ?_)
  refine s12 ?_
  refine kJ [(1, _), (5, _), (6, _), (8, _), (11, _), (12, _), (37, _)] ?_
  refine s2 ?_
  refine JL_dec (fun h45 => ?_) (fun h45 => ?_)
  ·refine s4 ?_
   refine kJ [(5, _), (6, _), (8, _), (11, _)] ?_
   refine s4 ?_
   refine aW (ow_callR (ec_valE (args := #[.slice A2 m.length cap2]) rfl rfl rfl Cf.h rfl) rfl rfl (fun _ => rfl) (fun w hw => as_any m _ w (hrow20.up ET hw.bel) (by omega) hbm hdm)) (fun t49 _ => ?_)
   obtain ⟨A49, c49⟩ := t49
   dsimp only
   refine aW (ow_sliceC (vs := [_, _]) (ty := 175) rfl rfl (by rfl) rfl rfl (fun _ => by kernel_rfl)) (fun b50 hb50 => ?_)
   refine JL_asOwn (b := b50) (kk := 2) (m := 1) (by repeat constructor) rfl (by omega) ?_
   refine aS (oS (fun w hw => distinct_any [(⟨⟨A49, (srt m).length, c49, srt m⟩, false⟩ : Oc)] (.slice (some ⟨b50, 0, none⟩) 1 1) w (own_arr (A := some ⟨b50, 0, none⟩) (c := 1) (ty := 175) (L := [(⟨⟨A49, (srt m).length, c49, srt m⟩, false⟩ : Oc)]) EO hw (by repeat constructor) (Nat.le_of_ble_eq_true rfl)) (fun p hp => by
     simp only [List.mem_cons, List.not_mem_nil, or_false] at hp
     rcases hp with rfl
     ·exact own_arr (A := A49) (c := c49) ET hw (by repeat constructor) (by rw [srt_len]; omega)) (Nat.le_of_ble_eq_true rfl))) (fun A51 c51 => ?_)
   refine s6 ?_
   refine kJ [(6, _), (8, _)] ?_
   refine s6 ?_
   refine JQ_ngR ?_
   refine JR_one rfl (rr_agg (cs := [_, _, _]) rfl Agg.h (Siz.h (k := 3)) (by repeat constructor) (by rfl)) ?_
   have hos : ddP (List.map oP [(⟨⟨A49, (srt m).length, c49, srt m⟩, false⟩ : Oc)]) = outF l m (⟨xteam, xnn, xlate, xshort, xhow⟩ : Th) r := by unfold outF; rw [if_pos h45]; rfl
   have hch : choF (⟨xteam, xnn, xlate, xshort, xhow⟩ : Th) r = -1 := by unfold choF; rw [if_neg (by omega), if_neg (by omega), if_neg (by omega)]
   have hn : ∀ p ∈ [(⟨⟨A49, (srt m).length, c49, srt m⟩, false⟩ : Oc)], p.d.n = p.d.l.length ∧ p.d.l.length ≤ 16 := fun p hp => by
    simp only [List.mem_cons, List.not_mem_nil, or_false] at hp
    rcases hp with rfl <;> exact ⟨rfl, by dsimp only; rw [srt_len]; omega⟩
   intro w' hw
   obtain ⟨h1, h2⟩ := jud_out (L0 := [(⟨⟨A49, (srt m).length, c49, srt m⟩, false⟩ : Oc)]) (A := A51) (c := c51) hw (by repeat constructor) hos hn
   exact ⟨⟨A51, c51, ddO [(⟨⟨A49, (srt m).length, c49, srt m⟩, false⟩ : Oc)]⟩, by rw [← hr]; exact h1, by rw [← hr, hch], h2⟩
  ·refine s7 ?_
   refine JL_dec (fun h54 => ?_) (fun h54 => ?_)
   ·refine s4 ?_
    refine kJ [(6, _), (8, _), (12, _)] ?_
    refine s2 ?_
    refine aW (ow_sliceC (vs := [_, _]) (ty := 175) rfl rfl (by rfl) rfl rfl (fun _ => by kernel_rfl)) (fun b56 hb56 => ?_)
    refine JL_asOwn (b := b56) (kk := 2) (m := 1) (by repeat constructor) rfl (by omega) ?_
    refine aS (oS (fun w hw => distinct_any [(⟨⟨A34, (srt l).length, c34, srt l⟩, true⟩ : Oc)] (.slice (some ⟨b56, 0, none⟩) 1 1) w (own_arr (A := some ⟨b56, 0, none⟩) (c := 1) (ty := 175) (L := [(⟨⟨A34, (srt l).length, c34, srt l⟩, true⟩ : Oc)]) EO hw (by repeat constructor) (Nat.le_of_ble_eq_true rfl)) (fun p hp => by
      simp only [List.mem_cons, List.not_mem_nil, or_false] at hp
      rcases hp with rfl
      ·exact own_arr (A := A34) (c := c34) ET hw (by repeat constructor) (by rw [srt_len]; omega)) (Nat.le_of_ble_eq_true rfl))) (fun A57 c57 => ?_)
    refine s6 ?_
    refine kJ [(6, _), (8, _)] ?_
    refine s6 ?_
    refine JQ_ngR ?_
    refine JR_one rfl (rr_agg (cs := [_, _, _]) rfl Agg.h (Siz.h (k := 3)) (by repeat constructor) (by rfl)) ?_
    have hos : ddP (List.map oP [(⟨⟨A34, (srt l).length, c34, srt l⟩, true⟩ : Oc)]) = outF l m (⟨xteam, xnn, xlate, xshort, xhow⟩ : Th) r := by unfold outF; rw [if_neg h45, if_pos h54]; rfl
    have hch : choF (⟨xteam, xnn, xlate, xshort, xhow⟩ : Th) r = -1 := by unfold choF; rw [if_neg (by omega), if_neg (by omega), if_neg (by omega)]
    have hn : ∀ p ∈ [(⟨⟨A34, (srt l).length, c34, srt l⟩, true⟩ : Oc)], p.d.n = p.d.l.length ∧ p.d.l.length ≤ 16 := fun p hp => by
     simp only [List.mem_cons, List.not_mem_nil, or_false] at hp
     rcases hp with rfl <;> exact ⟨rfl, by dsimp only; rw [srt_len]; omega⟩
    intro w' hw
    obtain ⟨h1, h2⟩ := jud_out (L0 := [(⟨⟨A34, (srt l).length, c34, srt l⟩, true⟩ : Oc)]) (A := A57) (c := c57) hw (by repeat constructor) hos hn
    exact ⟨⟨A57, c57, ddO [(⟨⟨A34, (srt l).length, c34, srt l⟩, true⟩ : Oc)]⟩, by rw [← hr]; exact h1, by rw [← hr, hch], h2⟩
   ·refine s5 ?_
    refine kJ [(1, _), (5, _), (6, _), (8, _), (11, _), (12, _), (37, _)] ?_
    refine s2 ?_
    refine JL_dec (fun h60 => ?_) (fun h60 => ?_)
    ·refine s5 ?_
     refine kJ [(1, _), (5, _), (6, _), (8, _), (11, _)] ?_
     refine s5 ?_
     refine xDx [0, 1, 2, 3, 4, 6, 7, 8, 10, 11, 12, 14, 19, 5, 9, 13, 15, 16, 17, 18, 20, 21, 22] [] [1, 8, 12] [cellB b5 [.int .i64 xteam, .int .i64 xnn, .bool xlate, .bool xshort, .int .i64 xhow, .slice A2 m.length cap2] 26] ?_
     refine s13 ?_
     refine dW rfl (ow_callR (ec_valE (args := #[.slice A l.length cap]) rfl rfl rfl Cf.h rfl) rfl rfl (fun _ => rfl) (fun w hw => as_any l _ w (hrow0.up ET hw.bel) (by omega) hbl hdl)) (fun t67 _ => ?_)
     obtain ⟨A67, c67⟩ := t67
     dsimp only
     refine dW rfl (ow_callR (ec_valE (args := #[.slice A2 m.length cap2]) rfl rfl rfl Cf.h rfl) rfl rfl (fun _ => rfl) (fun w hw => as_any m _ w (hrow20.up ET hw.bel) (by omega) hbm hdm)) (fun t71 _ => ?_)
     obtain ⟨A71, c71⟩ := t71
     dsimp only
     refine dS rfl (oS (fun w hw => CloneT m _ w (hrow20.up ET hw.bel) (by omega))) (fun A75 c75 => ?_)
     refine dW rfl (oM (fun w hw => DeleteFuncT 79 #[.pointer (some ⟨b5, 0, none⟩)] (isB xteam xnn) m A75 c75 w (by omega) (hw.ok (ownB 43 4 A75 m.length c75 (m.flatMap eT)) (by repeat constructor)).1 (hw.newA (A := ownB 43 4 A75 m.length c75 (m.flatMap eT)) (by repeat constructor) rfl).2 (fun s hs W hW => own_any s (⟨xteam, xnn, xlate, xshort, xhow⟩ : Th) A2 m.length cap2 b5 W (hw.keepO (A := ownB 43 4 A75 m.length c75 (m.flatMap eT)) (C := cellB b5 [.int .i64 xteam, .int .i64 xnn, .bool xlate, .bool xshort, .int .i64 xhow, .slice A2 m.length cap2] 26) hW (by repeat constructor) rfl).1))) (fun _ _ => ?_)
     refine dW rfl (ow_callR (ec_valE (args := #[.slice A75 (m.filter (fun s => !isB xteam xnn s)).length c75]) rfl rfl rfl Cf.h rfl) rfl rfl (fun _ => rfl) (fun w hw => as_any (m.filter (fun s => !isB xteam xnn s)) _ w (own_arr (A := A75) (c := c75) ET hw (by repeat constructor) (by omega)) (by omega) hbf hdf)) (fun t78 _ => ?_)
     obtain ⟨A78, c78⟩ := t78
     dsimp only
     refine dW rfl (ow_sliceC (vs := [_, _, _, _, _, _]) (ty := 175) rfl rfl (by rfl) rfl rfl (fun _ => by kernel_rfl)) (fun b79 hb79 => ?_)
     refine dAsOwn (b := b79) (kk := 2) (m := 3) (by repeat constructor) rfl (by omega) ?_
     refine dS rfl (oS (fun w hw => distinct_any [(⟨⟨A67, (srt l).length, c67, srt l⟩, false⟩ : Oc), (⟨⟨A71, (srt m).length, c71, srt m⟩, false⟩ : Oc), (⟨⟨A78, (srt (m.filter (fun s => !isB xteam xnn s))).length, c78, srt (m.filter (fun s => !isB xteam xnn s))⟩, false⟩ : Oc)] (.slice (some ⟨b79, 0, none⟩) 3 3) w (own_arr (A := some ⟨b79, 0, none⟩) (c := 3) (ty := 175) (L := [(⟨⟨A67, (srt l).length, c67, srt l⟩, false⟩ : Oc), (⟨⟨A71, (srt m).length, c71, srt m⟩, false⟩ : Oc), (⟨⟨A78, (srt (m.filter (fun s => !isB xteam xnn s))).length, c78, srt (m.filter (fun s => !isB xteam xnn s))⟩, false⟩ : Oc)]) EO hw (by repeat constructor) (Nat.le_of_ble_eq_true rfl)) (fun p hp => by
       simp only [List.mem_cons, List.not_mem_nil, or_false] at hp
       rcases hp with rfl | rfl | rfl
       ·exact own_arr (A := A67) (c := c67) ET hw (by repeat constructor) (by rw [srt_len]; omega)
       ·exact own_arr (A := A71) (c := c71) ET hw (by repeat constructor) (by rw [srt_len]; omega)
       ·exact own_arr (A := A78) (c := c78) ET hw (by repeat constructor) (by rw [srt_len]; omega)) (Nat.le_of_ble_eq_true rfl))) (fun A80 c80 => ?_)
     refine s7 ?_
     refine kJ [(6, _), (8, _)] ?_
     refine s6 ?_
     refine JQ_ngR ?_
     refine JR_one rfl (rr_agg (cs := [_, _, _]) rfl Agg.h (Siz.h (k := 3)) (by repeat constructor) (by rfl)) ?_
     have hos : ddP (List.map oP [(⟨⟨A67, (srt l).length, c67, srt l⟩, false⟩ : Oc), (⟨⟨A71, (srt m).length, c71, srt m⟩, false⟩ : Oc), (⟨⟨A78, (srt (m.filter (fun s => !isB xteam xnn s))).length, c78, srt (m.filter (fun s => !isB xteam xnn s))⟩, false⟩ : Oc)]) = outF l m (⟨xteam, xnn, xlate, xshort, xhow⟩ : Th) r := by unfold outF; rw [if_neg h45, if_neg h54, if_pos h60]; rfl
     have hch : choF (⟨xteam, xnn, xlate, xshort, xhow⟩ : Th) r = 1 - xteam := by unfold choF; rw [if_pos h60]
     have hn : ∀ p ∈ [(⟨⟨A67, (srt l).length, c67, srt l⟩, false⟩ : Oc), (⟨⟨A71, (srt m).length, c71, srt m⟩, false⟩ : Oc), (⟨⟨A78, (srt (m.filter (fun s => !isB xteam xnn s))).length, c78, srt (m.filter (fun s => !isB xteam xnn s))⟩, false⟩ : Oc)], p.d.n = p.d.l.length ∧ p.d.l.length ≤ 16 := fun p hp => by
      simp only [List.mem_cons, List.not_mem_nil, or_false] at hp
      rcases hp with rfl | rfl | rfl <;> exact ⟨rfl, by dsimp only; rw [srt_len]; omega⟩
     intro w' hw
     obtain ⟨h1, h2⟩ := jud_out (L0 := [(⟨⟨A67, (srt l).length, c67, srt l⟩, false⟩ : Oc), (⟨⟨A71, (srt m).length, c71, srt m⟩, false⟩ : Oc), (⟨⟨A78, (srt (m.filter (fun s => !isB xteam xnn s))).length, c78, srt (m.filter (fun s => !isB xteam xnn s))⟩, false⟩ : Oc)]) (A := A80) (c := c80) hw (by repeat constructor) hos hn
     exact ⟨⟨A80, c80, ddO [(⟨⟨A67, (srt l).length, c67, srt l⟩, false⟩ : Oc), (⟨⟨A71, (srt m).length, c71, srt m⟩, false⟩ : Oc), (⟨⟨A78, (srt (m.filter (fun s => !isB xteam xnn s))).length, c78, srt (m.filter (fun s => !isB xteam xnn s))⟩, false⟩ : Oc)]⟩, by rw [← hr]; exact h1, by rw [← hr, hch], h2⟩
    ·refine s7 ?_
     refine JL_dec (fun h84 => ?_) (fun h84 => ?_)
     ·refine s4 ?_
      refine kJ [(5, _), (6, _), (8, _), (11, _), (12, _)] ?_
      refine xDx [0, 1, 2, 3, 4, 6, 9, 5, 7, 8, 10, 11, 12] [] [1, 4, 6] [cellB b5 [.int .i64 xteam, .int .i64 xnn, .bool xlate, .bool xshort, .int .i64 xhow, .slice A2 m.length cap2] 26, cellB b12 [.slice A34 (srt l).length c34, .bool true] 175] ?_
      refine s7 ?_
      refine dW rfl (ow_callR (ec_valE (args := #[.slice A2 m.length cap2]) rfl rfl rfl Cf.h rfl) rfl rfl (fun _ => rfl) (fun w hw => as_any m _ w (hrow20.up ET hw.bel) (by omega) hbm hdm)) (fun t90 _ => ?_)
      obtain ⟨A90, c90⟩ := t90
      dsimp only
      refine dW rfl (ow_sliceC (vs := [_, _, _, _]) (ty := 175) rfl rfl (by rfl) rfl rfl (fun _ => by kernel_rfl)) (fun b92 hb92 => ?_)
      refine dAsOwn (b := b92) (kk := 2) (m := 2) (by repeat constructor) rfl (by omega) ?_
      refine dS rfl (oS (fun w hw => distinct_any [(⟨⟨A90, (srt m).length, c90, srt m⟩, false⟩ : Oc), (⟨⟨A34, (srt l).length, c34, srt l⟩, true⟩ : Oc)] (.slice (some ⟨b92, 0, none⟩) 2 2) w (own_arr (A := some ⟨b92, 0, none⟩) (c := 2) (ty := 175) (L := [(⟨⟨A90, (srt m).length, c90, srt m⟩, false⟩ : Oc), (⟨⟨A34, (srt l).length, c34, srt l⟩, true⟩ : Oc)]) EO hw (by repeat constructor) (Nat.le_of_ble_eq_true rfl)) (fun p hp => by
        simp only [List.mem_cons, List.not_mem_nil, or_false] at hp
        rcases hp with rfl | rfl
        ·exact own_arr (A := A90) (c := c90) ET hw (by repeat constructor) (by rw [srt_len]; omega)
        ·exact own_arr (A := A34) (c := c34) ET hw (by repeat constructor) (by rw [srt_len]; omega)) (Nat.le_of_ble_eq_true rfl))) (fun A93 c93 => ?_)
      refine s7 ?_
      refine kJ [(6, _), (8, _)] ?_
      refine s6 ?_
      refine JQ_ngR ?_
      refine JR_one rfl (rr_agg (cs := [_, _, _]) rfl Agg.h (Siz.h (k := 3)) (by repeat constructor) (by rfl)) ?_
      have hos : ddP (List.map oP [(⟨⟨A90, (srt m).length, c90, srt m⟩, false⟩ : Oc), (⟨⟨A34, (srt l).length, c34, srt l⟩, true⟩ : Oc)]) = outF l m (⟨xteam, xnn, xlate, xshort, xhow⟩ : Th) r := by unfold outF; rw [if_neg h45, if_neg h54, if_neg h60, if_pos h84]; rfl
      have hch : choF (⟨xteam, xnn, xlate, xshort, xhow⟩ : Th) r = xteam := by unfold choF; rw [if_neg h60, if_pos h84]
      have hn : ∀ p ∈ [(⟨⟨A90, (srt m).length, c90, srt m⟩, false⟩ : Oc), (⟨⟨A34, (srt l).length, c34, srt l⟩, true⟩ : Oc)], p.d.n = p.d.l.length ∧ p.d.l.length ≤ 16 := fun p hp => by
       simp only [List.mem_cons, List.not_mem_nil, or_false] at hp
       rcases hp with rfl | rfl <;> exact ⟨rfl, by dsimp only; rw [srt_len]; omega⟩
      intro w' hw
      obtain ⟨h1, h2⟩ := jud_out (L0 := [(⟨⟨A90, (srt m).length, c90, srt m⟩, false⟩ : Oc), (⟨⟨A34, (srt l).length, c34, srt l⟩, true⟩ : Oc)]) (A := A93) (c := c93) hw (by repeat constructor) hos hn
      exact ⟨⟨A93, c93, ddO [(⟨⟨A90, (srt m).length, c90, srt m⟩, false⟩ : Oc), (⟨⟨A34, (srt l).length, c34, srt l⟩, true⟩ : Oc)]⟩, by rw [← hr]; exact h1, by rw [← hr, hch], h2⟩
     ·refine s5 ?_
      refine kJ [(1, _), (5, _), (6, _), (8, _), (11, _), (37, _)] ?_
      refine s2 ?_
      refine JL_dec (fun h97 => ?_) (fun h97 => ?_)
      ·refine s4 ?_
       refine xDx [0, 1, 2, 3, 4, 5, 7, 8, 12, 6, 9, 10, 11, 13, 14, 15] [] [1, 5] [cellB b5 [.int .i64 xteam, .int .i64 xnn, .bool xlate, .bool xshort, .int .i64 xhow, .slice A2 m.length cap2] 26] ?_
       refine s9 ?_
       refine dW rfl (ow_callR (ec_valE (args := #[.slice A2 m.length cap2]) rfl rfl rfl Cf.h rfl) rfl rfl (fun _ => rfl) (fun w hw => as_any m _ w (hrow20.up ET hw.bel) (by omega) hbm hdm)) (fun t104 _ => ?_)
       obtain ⟨A104, c104⟩ := t104
       dsimp only
       refine dW rfl (ow_callR (ec_valE (args := #[.slice A l.length cap]) rfl rfl rfl Cf.h rfl) rfl rfl (fun _ => rfl) (fun w hw => as_any l _ w (hrow0.up ET hw.bel) (by omega) hbl hdl)) (fun t107 _ => ?_)
       obtain ⟨A107, c107⟩ := t107
       dsimp only
       refine dW rfl (ow_sliceC (vs := [_, _, _, _]) (ty := 175) rfl rfl (by rfl) rfl rfl (fun _ => by kernel_rfl)) (fun b108 hb108 => ?_)
       refine dAsOwn (b := b108) (kk := 2) (m := 2) (by repeat constructor) rfl (by omega) ?_
       refine dS rfl (oS (fun w hw => distinct_any [(⟨⟨A104, (srt m).length, c104, srt m⟩, false⟩ : Oc), (⟨⟨A107, (srt l).length, c107, srt l⟩, false⟩ : Oc)] (.slice (some ⟨b108, 0, none⟩) 2 2) w (own_arr (A := some ⟨b108, 0, none⟩) (c := 2) (ty := 175) (L := [(⟨⟨A104, (srt m).length, c104, srt m⟩, false⟩ : Oc), (⟨⟨A107, (srt l).length, c107, srt l⟩, false⟩ : Oc)]) EO hw (by repeat constructor) (Nat.le_of_ble_eq_true rfl)) (fun p hp => by
         simp only [List.mem_cons, List.not_mem_nil, or_false] at hp
         rcases hp with rfl | rfl
         ·exact own_arr (A := A104) (c := c104) ET hw (by repeat constructor) (by rw [srt_len]; omega)
         ·exact own_arr (A := A107) (c := c107) ET hw (by repeat constructor) (by rw [srt_len]; omega)) (Nat.le_of_ble_eq_true rfl))) (fun A109 c109 => ?_)
       refine s7 ?_
       refine kJ [(6, _), (8, _)] ?_
       refine s6 ?_
       refine JQ_ngR ?_
       refine JR_one rfl (rr_agg (cs := [_, _, _]) rfl Agg.h (Siz.h (k := 3)) (by repeat constructor) (by rfl)) ?_
       have hos : ddP (List.map oP [(⟨⟨A104, (srt m).length, c104, srt m⟩, false⟩ : Oc), (⟨⟨A107, (srt l).length, c107, srt l⟩, false⟩ : Oc)]) = outF l m (⟨xteam, xnn, xlate, xshort, xhow⟩ : Th) r := by unfold outF; rw [if_neg h45, if_neg h54, if_neg h60, if_neg h84, if_pos h97]; rfl
       have hch : choF (⟨xteam, xnn, xlate, xshort, xhow⟩ : Th) r = 1 - xteam := by unfold choF; rw [if_neg h60, if_neg h84, if_pos h97]
       have hn : ∀ p ∈ [(⟨⟨A104, (srt m).length, c104, srt m⟩, false⟩ : Oc), (⟨⟨A107, (srt l).length, c107, srt l⟩, false⟩ : Oc)], p.d.n = p.d.l.length ∧ p.d.l.length ≤ 16 := fun p hp => by
        simp only [List.mem_cons, List.not_mem_nil, or_false] at hp
        rcases hp with rfl | rfl <;> exact ⟨rfl, by dsimp only; rw [srt_len]; omega⟩
       intro w' hw
       obtain ⟨h1, h2⟩ := jud_out (L0 := [(⟨⟨A104, (srt m).length, c104, srt m⟩, false⟩ : Oc), (⟨⟨A107, (srt l).length, c107, srt l⟩, false⟩ : Oc)]) (A := A109) (c := c109) hw (by repeat constructor) hos hn
       exact ⟨⟨A109, c109, ddO [(⟨⟨A104, (srt m).length, c104, srt m⟩, false⟩ : Oc), (⟨⟨A107, (srt l).length, c107, srt l⟩, false⟩ : Oc)]⟩, by rw [← hr]; exact h1, by rw [← hr, hch], h2⟩
      ·refine s4 ?_
       refine kJ [(1, _), (6, _), (8, _), (11, _)] ?_
       refine s3 ?_
       refine aW (ow_callR (ec_valE (args := #[.slice A l.length cap]) rfl rfl rfl Cf.h rfl) rfl rfl (fun _ => rfl) (fun w hw => as_any l _ w (hrow0.up ET hw.bel) (by omega) hbl hdl)) (fun t40 _ => ?_)
       obtain ⟨A40, c40⟩ := t40
       dsimp only
       refine aW (ow_sliceC (vs := [_, _]) (ty := 175) rfl rfl (by rfl) rfl rfl (fun _ => by kernel_rfl)) (fun b41 hb41 => ?_)
       refine JL_asOwn (b := b41) (kk := 2) (m := 1) (by repeat constructor) rfl (by omega) ?_
       refine aS (oS (fun w hw => distinct_any [(⟨⟨A40, (srt l).length, c40, srt l⟩, false⟩ : Oc)] (.slice (some ⟨b41, 0, none⟩) 1 1) w (own_arr (A := some ⟨b41, 0, none⟩) (c := 1) (ty := 175) (L := [(⟨⟨A40, (srt l).length, c40, srt l⟩, false⟩ : Oc)]) EO hw (by repeat constructor) (Nat.le_of_ble_eq_true rfl)) (fun p hp => by
         simp only [List.mem_cons, List.not_mem_nil, or_false] at hp
         rcases hp with rfl
         ·exact own_arr (A := A40) (c := c40) ET hw (by repeat constructor) (by rw [srt_len]; omega)) (Nat.le_of_ble_eq_true rfl))) (fun A42 c42 => ?_)
       refine s6 ?_
       refine kJ [(6, _), (8, _)] ?_
       refine s6 ?_
       refine JQ_ngR ?_
       refine JR_one rfl (rr_agg (cs := [_, _, _]) rfl Agg.h (Siz.h (k := 3)) (by repeat constructor) (by rfl)) ?_
       have hos : ddP (List.map oP [(⟨⟨A40, (srt l).length, c40, srt l⟩, false⟩ : Oc)]) = outF l m (⟨xteam, xnn, xlate, xshort, xhow⟩ : Th) r := by unfold outF; rw [if_neg h45, if_neg h54, if_neg h60, if_neg h84, if_neg h97]; rfl
       have hch : choF (⟨xteam, xnn, xlate, xshort, xhow⟩ : Th) r = -1 := by unfold choF; rw [if_neg h60, if_neg h84, if_neg h97]
       have hn : ∀ p ∈ [(⟨⟨A40, (srt l).length, c40, srt l⟩, false⟩ : Oc)], p.d.n = p.d.l.length ∧ p.d.l.length ≤ 16 := fun p hp => by
        simp only [List.mem_cons, List.not_mem_nil, or_false] at hp
        rcases hp with rfl <;> exact ⟨rfl, by dsimp only; rw [srt_len]; omega⟩
       intro w' hw
       obtain ⟨h1, h2⟩ := jud_out (L0 := [(⟨⟨A40, (srt l).length, c40, srt l⟩, false⟩ : Oc)]) (A := A42) (c := c42) hw (by repeat constructor) hos hn
       exact ⟨⟨A42, c42, ddO [(⟨⟨A40, (srt l).length, c40, srt l⟩, false⟩ : Oc)]⟩, by rw [← hr]; exact h1, by rw [← hr, hch], h2⟩
end Go.Proofs.YtmcpnoailbmkkaaGreatDoor
/- Layer 7: Protected, Judge, Named. -/
namespace Go.Proofs.YtmcpnoailbmkkaaGreatDoor
open Go Go.RowKit Go.Proofs
attribute [local irreducible] J JQ JL JA JD

/-- The rule of a valid throw. -/
def ruleF (c : Cd) (n : Int) (l m : List St) (x : Th) : Int := rulF x (remB c n x.team m l) (movB c n x.team m l) (decide (n < c.s))
theorem thr_parts {l m : List St} {x : Th} (h : thrB l m x = true) : chkB l = true ∧ chkB m = true ∧ (0 ≤ x.team ∧ x.team ≤ 1) ∧ (0 ≤ x.n ∧ x.n ≤ 7) ∧ (0 ≤ x.how ∧ x.how ≤ 4) := by
 unfold thrB thrA at h
 simp only [Bool.and_eq_true, decide_eq_true_eq] at h
 exact ⟨h.1.1.1.1.1.1.1, h.1.1.1.1.1.1.2, h.1.1.1.1.1.2, h.1.1.1.1.2, h.1.1.1.2⟩
end Go.Proofs.YtmcpnoailbmkkaaGreatDoor
/- Layer 7: copied. -/
namespace Go.Proofs.YtmcpnoailbmkkaaGreatDoor
open Go Go.RowKit Go.Proofs
attribute [local irreducible] J JQ JL JA JD

set_option maxRecDepth 100000 in
set_option maxHeartbeats 4000000 in
theorem CloneO (l : List Oc) (v : Value) (w : World) (hrow : Arr 2 eO w v l) (hl9 : l.length ≤ 1000) : Calls Tryz.prog 155 #[v] w (RetS 175 2 eO l w) := by
 have hrow0 := hrow
 obtain ⟨A, cap, rfl, -, ⟨hl, -⟩, hA⟩ := hrow
 refine J_enter (fun _ => False) (vs := [.slice A l.length cap]) (k := 7) (l := [(0, .slice A l.length cap)]) Tryz.func155 rfl rfl Tryz.ntmps155 rfl rfl (Wd.start _) ?_
 refine s9 ?_
 refine aP (pSlNil rfl rfl) ?_
 refine JL_bool (fun h4 => ?_) (fun h4 => ?_)
 ·refine s4 ?_
  refine J_own0 175 2 ?_
  refine kJ [] ?_
  refine s6 ?_
  refine JR_one rfl (rr_tmp rfl) ?_
  intro w' hw
  obtain rfl : l = [] := by
   cases l with
   | nil => rfl
   | cons y l =>
    obtain ⟨b, o, h, -⟩ := hA (by intro h; cases h)
    rw [h] at h4; cases h4
  exact ⟨none, 0, rfl, hw.pick (by repeat constructor)⟩
 ·refine s7 ?_
  refine aW (ow_slice0 (k := 2) (ty := 175) rfl rfl rfl (fun _ => by kernel_rfl)) (fun b5 hb5 => ?_)
  refine s1 ?_
  refine aS (oAppX (sl := 28) EO ([] : List Oc) l (fun w hw => hrow0.up EO hw.bel) rfl (Nat.le_refl _) (hl := by rw [List.length_nil]; omega)) (fun A7 c7 => ?_)
  rw [List.nil_append]
  refine s4 ?_
  refine JR_one rfl (rr_tmp rfl) ?_
  intro w' hw
  exact ⟨A7, c7, rfl, hw.pick (by repeat constructor)⟩
theorem cop_s {L : List Oc} {l : List Oc} {k : Nat} {x y : Oc} (hk : k < l.length) (hx : l[k]'hk = x) (hL : L.length = l.length) (h1 : L.drop k = l.drop k) (h2 : (L.take k).map oP = (l.take k).map oP) (hy : oP y = oP x) :
  (L.set k y).take (k + 1) = L.take k ++ [y] ∧ (L.set k y).drop (k + 1) = l.drop (k + 1) ∧ ((L.set k y).take (k + 1)).map oP = (l.take (k + 1)).map oP := by
 have hkL : k < L.length := by omega
 have e1 : (L.set k y).take (k + 1) = L.take k ++ [y] := by rw [List.take_succ_eq_append_getElem (by rw [List.length_set]; exact hkL), List.getElem_set_self, List.take_set_of_le (Nat.le_refl k)]
 refine ⟨e1, ?_, ?_⟩
 ·rw [List.drop_set_of_lt (by omega)]
  rw [List.drop_eq_getElem_cons hk, List.drop_eq_getElem_cons hkL] at h1
  injection h1
 ·rw [e1, List.map_append, h2, List.take_succ_eq_append_getElem hk, List.map_append, hx]
  simp [hy]
set_option maxRecDepth 100000 in
set_option maxHeartbeats 4000000 in
theorem copied_any (r h : Int) (l : List Oc) (A : Option Addr) (cap : Nat) (w : World) (hrow : Arr 2 eO w (.slice A l.length cap) l) (ho : ∀ p ∈ l, OcW w p ∧ p.d.l.length ≤ 16) (hl9 : l.length ≤ 1000) : Calls Tryz.prog 106 #[.agg #[.int .i64 r, .int .i64 h, .slice A l.length cap]] w (Ret w (OcP (l.map oP)) (Ruv r h) ocI) := by
 have hrow0 := hrow
 refine J_enter (fun _ => False) (vs := [.agg #[.int .i64 r, .int .i64 h, .slice A l.length cap]]) (k := 26) (l := [(0, .agg #[.int .i64 r, .int .i64 h, .slice A l.length cap])]) Tryz.func106 rfl rfl Tryz.ntmps106 rfl rfl (Wd.start _) ?_
 refine s2 ?_
 refine aW (oX [_, _, _]) (fun b1 hb1 => ?_)
 refine aW oA (fun b2 hb2 => ?_)
 refine s6 ?_
 refine aS (oS (fun w hw => CloneO l _ w (hrow0.up EO hw.bel) hl9)) (fun A7 c7 => ?_)
 refine s6 ?_
 refine J_grp0 ?_
 refine kJ [(1, _), (2, _)] ?_
 refine s8 ?_
 refine xL (T := Nat × List Oc) (fun q => q.1 ≤ l.length ∧ q.2.length = l.length ∧ q.2.drop q.1 = l.drop q.1 ∧ (q.2.take q.1).map oP = (l.take q.1).map oP ∧ ∀ p ∈ q.2.take q.1, p.d.n = p.d.l.length ∧ p.d.l.length ≤ 16) (fun q => [(1, .pointer (some ⟨b1, 0, none⟩)), (2, .pointer (some ⟨b2, 0, none⟩)), (10, .slice A7 l.length c7), (11, .int .i64 (l.length : Nat)), (12, .int .i64 (q.1 : Nat))]) (fun q => [cellB b1 [.int .i64 r, .int .i64 h, .slice A7 l.length c7] 30, cellB b2 [.int .i64 0, .int .i64 0, .slice none 0 0] 30, ownB 175 2 A7 l.length c7 (q.2.flatMap eO), grpB ((q.2.take q.1).map rwB)]) (fun q => l.length - q.1) (0, l) ⟨Nat.zero_le _, rfl, rfl, rfl, fun p hp => (by cases hp)⟩ ?_
 rintro ⟨k, L⟩ ⟨hk, hL, hd, ht, hn⟩
 dsimp only at hk hL hd ht hn ⊢
 refine s3 ?_
 refine JL_dec (fun h13 => ?_) (fun h13 => ?_)
 ·refine s9 ?_
  have hltx : k < l.length := by omega
  obtain ⟨⟨⟨xA, xn, xk, xl⟩, xg⟩, hx⟩ : ∃ y, l[k]'hltx = y := ⟨_, rfl⟩
  have hmx : (⟨⟨xA, xn, xk, xl⟩, xg⟩ : Oc) ∈ l := by rw [← hx]; exact List.getElem_mem _
  have hkL : k < L.length := by omega
  have hxL : L[k]'hkL = (⟨⟨xA, xn, xk, xl⟩, xg⟩ : Oc) := by
   rw [List.drop_eq_getElem_cons hltx, List.drop_eq_getElem_cons hkL] at hd
   rw [← hx]; injection hd
  refine J_fact (fun hw => ?_)
  obtain ⟨g, rfl⟩ := own_some hw (ty := 175) (k := 2) (m := l.length) (c := c7) (A := A7) (xs := L.flatMap eO) (by repeat constructor) (by omega)
  clear hw
  refine s3 ?_
  refine aV (vOwnA (cs := [.slice xA xn xk, .bool xg]) EO rfl rfl (by repeat constructor) hkL (by rw [hxL]; rfl)) ?_
  refine aW oA (fun b4 hb4 => ?_)
  refine s4 ?_
  refine kJ [(1, _), (2, _), (3, _), (4, _), (10, _), (11, _), (12, _)] ?_
  refine xDx [0, 1, 2, 3, 4, 5, 6, 7, 8] [] [1, 4] [cellB b1 [.int .i64 r, .int .i64 h, .slice (some ⟨g, 0, none⟩) l.length c7] 30, cellB b4 [.slice xA xn xk, .bool xg] 175] ?_
  refine s5 ?_
  refine dS rfl (oS (fun w hw => CloneT xl _ w ((ho _ hmx).1.up hw.bel) (by have := (ho _ hmx).2; dsimp only at this; omega))) (fun A22 c22 => ?_)
  refine s2 ?_
  refine dW0 rfl (oStE EO [_] (⟨⟨A22, xl.length, c22, xl⟩, xg⟩ : Oc) hkL (hi := Nat.le_of_ble_eq_true rfl) (hr := by rw [hxL]; rfl)) ?_
  refine s3 ?_
  refine kJ [(1, _), (2, _), (10, _), (11, _), (12, _)] ?_
  refine s4 ?_
  obtain ⟨s1, s2, s3⟩ := cop_s hltx hx hL hd ht (y := (⟨⟨A22, xl.length, c22, xl⟩, xg⟩ : Oc)) rfl
  refine JQ_push ((L.take k).map rwB) (rwB (⟨⟨A22, xl.length, c22, xl⟩, xg⟩ : Oc)) (map_nro (fun _ => rfl) _) ?_ (hk := (by repeat (first | exact Pk.refl _ | (apply Pk.pick; (repeat (first | exact Rm.here _ | apply Rm.there))))))
  have e : (L.take k).map rwB ++ [rwB (⟨⟨A22, xl.length, c22, xl⟩, xg⟩ : Oc)] = ((L.set k (⟨⟨A22, xl.length, c22, xl⟩, xg⟩ : Oc)).take (k + 1)).map rwB := by rw [s1, List.map_append]; rfl
  rw [e]
  exact xR (k + 1, L.set k (⟨⟨A22, xl.length, c22, xl⟩, xg⟩ : Oc)) ⟨by dsimp only; omega, by dsimp only; rw [List.length_set]; exact hL, s2, s3, fun p hp => by
   dsimp only at hp
   rw [s1] at hp
   rcases List.mem_append.1 hp with h | h
   ·exact hn p h
   ·rw [List.mem_singleton] at h; subst h; exact ⟨rfl, (ho _ hmx).2⟩⟩ (by dsimp only; omega) (hl := ⟨rfl, rfl, rfl, rfl, (congrArg some (by go_num)), trivial⟩)
 ·refine s10 ?_
  refine kJ [(1, _), (2, _)] ?_
  refine s6 ?_
  refine JR_one rfl (rr_agg (cs := [_, _, _]) rfl Agg.h (Siz.h (k := 3)) (by repeat constructor) (by rfl)) ?_
  intro w' hw
  obtain rfl : k = l.length := by omega
  have e : L.take l.length = L := by rw [← hL]; exact List.take_length
  rw [e] at ht hn hw
  rw [List.take_length] at ht
  exact ⟨⟨A7, c7, L⟩, ⟨ht, hn⟩, by rw [← hL], by rw [← hL] at hw; exact hw.pick (by repeat constructor)⟩
end Go.Proofs.YtmcpnoailbmkkaaGreatDoor
/- Layer 7: an end in memory; Next, take, Pending. -/
namespace Go.Proofs.YtmcpnoailbmkkaaGreatDoor
open Go Go.RowKit Go.Proofs
attribute [local irreducible] J JQ JL JA JD

/-- An end: its code, who throws first, its stones, how many are thrown, the ruling that waits. -/
structure En where
 c : Cd
 fr : Int
 l : List St
 tn : Int
 p : Option (Int × Int × List (List St × Bool))
/-- A ruling that waits, in memory; an end in memory. -/
structure PdM where
 b : Nat
 r : Int
 h : Int
 t : OcT
structure EnM where
 c : Cd
 fr : Int
 l : List St
 sA : Option Addr
 sk : Nat
 tn : Int
 p : Option PdM
def pdA : Option PdM → Option Addr
 | none => none
 | some m => some ⟨m.b, 0, none⟩
def EnM.pl (e : EnM) : En := ⟨e.c, e.fr, e.l, e.tn, e.p.map (fun m => (m.r, m.h, m.t.L.map oP))⟩
abbrev endC (b : Nat) (e : EnM) : It := cellB b [.int .i64 e.c.f, .int .i64 e.c.t, .int .i64 e.c.s, .int .i64 e.c.e, .bool e.c.p, .bool true, .int .i64 e.fr, .slice e.sA e.l.length e.sk, .int .i64 e.tn, .pointer (pdA e.p)] 217
abbrev pdC (m : PdM) : It := cellB m.b [.int .i64 m.r, .int .i64 m.h, .slice m.t.A m.t.L.length m.t.c] 30
def pdI : Option PdM → List It
 | none => []
 | some m => pdC m :: ocI m.t
abbrev endI (b : Nat) (e : EnM) : List It := endC b e :: ownB 43 4 e.sA e.l.length e.sk (e.l.flatMap eT) :: pdI e.p
theorem endI_nro (b : Nat) (e : EnM) : ((endI b e).all fun A => !A.ro) = true := by
 unfold endI
 cases h : e.p <;> rfl
/-- It is such an end. -/
def EnP (E : En) (e : EnM) : Prop := e.pl = E ∧ ∀ m, e.p = some m → ∀ p ∈ m.t.L, p.d.n = p.d.l.length ∧ p.d.l.length ≤ 16
/-- What an end's numbers keep to. -/
structure EnOk (E : En) : Prop where
 e : 1 ≤ E.c.e ∧ E.c.e ≤ 8
 fr : 0 ≤ E.fr ∧ E.fr ≤ 1
 tn : 0 ≤ E.tn ∧ E.tn ≤ 2 * E.c.e
 l : E.l.length ≤ 16
 p : ∀ r, E.p = some r → E.tn < 2 * E.c.e ∧ (1 < r.2.2.length ∧ r.2.2.length ≤ 3) ∧ ∀ o ∈ r.2.2, o.1.length ≤ 16
/-- What is read of it. -/
structure EndW (w : World) (b : Nat) (e : EnM) : Prop where
 cell : (endC b e).holds w
 row : Arr 4 eT w (.slice e.sA e.l.length e.sk) e.l
 pd : ∀ m, e.p = some m → (pdC m).holds w ∧ Arr 2 eO w (.slice m.t.A m.t.L.length m.t.c) m.t.L ∧ ∀ p ∈ m.t.L, OcW w p
theorem ocI_w {w : World} {t : OcT} (h : ∀ A ∈ ocI t, A.holds w) (hn : ∀ p ∈ t.L, p.d.n = p.d.l.length ∧ p.d.l.length ≤ 16) (hl : t.L.length ≤ 1000) : Arr 2 eO w (.slice t.A t.L.length t.c) t.L ∧ ∀ p ∈ t.L, OcW w p := by
 refine ⟨Arr.of_own EO (h (ownB 175 2 t.A t.L.length t.c (t.L.flatMap eO)) (by simp)) (by omega), fun p hp => ?_⟩
 have h1 : (grpB (t.L.map rwB)).holds w := h _ (by simp)
 have h2 : (rwB p).holds w := h1.1 _ (List.mem_map.2 ⟨p, hp, rfl⟩)
 have h3 : w.ownsRow 0 43 4 (.slice p.d.A p.d.n p.d.c) p.d.n (p.d.l.flatMap eT) := h2
 have h4 := (hn p hp).1
 unfold OcW Dv.v
 rw [h4] at h3 ⊢
 exact Arr.of_own ET h3 (by have := (hn p hp).2; omega)
theorem EndW.of {w : World} {b : Nat} {e : EnM} {E : En} (h : ∀ A ∈ endI b e, A.holds w) (hp : EnP E e) (hok : EnOk E) : EndW w b e := by
 obtain ⟨rfl, hn⟩ := hp
 refine ⟨h (endC b e) (by simp), Arr.of_own ET (h (ownB 43 4 e.sA e.l.length e.sk (e.l.flatMap eT)) (by simp)) (by have := hok.l; dsimp only [EnM.pl] at this; omega), fun m hm => ?_⟩
 have h1 : ∀ A ∈ pdC m :: ocI m.t, A.holds w := fun A hA => h A (List.mem_cons_of_mem _ (List.mem_cons_of_mem _ (by rw [hm]; exact hA)))
 have h2 := (hok.p (m.r, m.h, m.t.L.map oP) (by unfold EnM.pl; rw [hm]; rfl)).2.1
 rw [List.length_map] at h2
 exact ⟨h1 (pdC m) (by simp), ocI_w (fun A hA => h1 A (List.mem_cons_of_mem _ hA)) (hn m hm) (by omega)⟩
theorem EndW.up {w w' : World} {b : Nat} {e : EnM} (h : EndW w b e) (hb : Below w.heap.size w w') : EndW w' b e :=
 ⟨It.up_cell h.cell hb, h.row.up ET hb, fun m hm => ⟨It.up_cell (h.pd m hm).1 hb, (h.pd m hm).2.1.up EO hb, fun p hp => ((h.pd m hm).2.2 p hp).up hb⟩⟩
/-- Which stone comes next; the error. -/
def nextF (E : En) : Int × Int × Int := if E.p.isSome = true ∨ E.tn = 2 * E.c.e then (0, 0, 9) else ((E.fr + E.tn) % 2, E.tn / 2, 0)
/-- An end with an outcome. -/
def tookE (E : En) (o : List St × Bool) : En := { E with p := none, l := o.1, tn := if o.2 = true then E.tn else E.tn + 1 }
theorem tup3 {a b : Int × Int × Int} (h : a = b) : Value.tuple #[.int .i64 a.1, .int .i64 a.2.1, .int .i64 a.2.2] = .tuple #[.int .i64 b.1, .int .i64 b.2.1, .int .i64 b.2.2] := by rw [h]
set_option maxRecDepth 100000 in
set_option maxHeartbeats 4000000 in
theorem Next_any (b : Nat) (e : EnM) (w : World) (h : EndW w b e) (hok : EnOk e.pl) : Calls Tryz.prog 104 #[.pointer (some ⟨b, 0, none⟩)] w (Back (.tuple #[.int .i64 (nextF e.pl).1, .int .i64 (nextF e.pl).2.1, .int .i64 (nextF e.pl).2.2]) w) := by
 obtain ⟨⟨kf, kt, ks, ke, kp⟩, fr, l, sA, sk, tn, pd⟩ := e
 have he := hok.e
 have hf := hok.fr
 have ht := hok.tn
 dsimp only [EnM.pl] at he hf ht
 refine J_enter (fun _ => False) (vs := [.pointer (some ⟨b, 0, none⟩)]) (k := 33) (l := [(0, .pointer (some ⟨b, 0, none⟩))]) Tryz.func104 rfl rfl Tryz.ntmps104 rfl rfl (Wd.start _) ?_
 refine s1 ?_
 rcases pd with _ | pm
 ·have hc : (cellB b [.int .i64 kf, .int .i64 kt, .int .i64 ks, .int .i64 ke, .bool kp, .bool true, .int .i64 fr, .slice sA l.length sk, .int .i64 tn, .pointer none] 217).holds w := h.cell

  refine s11 ?_
  refine aCB (fun w hw => is_any b kf kt ks ke kp true fr sA l.length sk tn _ w (It.up_cell hc hw.bel)) ?_
  refine aBoolT ?_ rfl
  refine s6 ?_
  refine kJ [(0, _)] ?_
  refine s4 ?_
  refine aV (vOld rfl rfl (fun h => h) (cellB_get hc rfl)) ?_
  refine aP (pNeqP (by kernel_rfl) rfl rfl) ?_
  refine aBoolF ?_ rfl
  refine s2 ?_
  refine aCB (fun w hw => over_any b kf kt ks ke kp true fr sA l.length sk tn _ w (It.up_cell hc hw.bel) (by omega)) ?_
  refine JL_dec (fun h17 => ?_) (fun h17 => ?_)
  ·refine s6 ?_
   refine kJ [] ?_
   refine s9 ?_
   refine JR_three rfl (rr_tmp rfl) (rr_tmp rfl) (rr_tmp rfl) ?_
   intro w' hw
   exact ⟨congrArg Ending.returned (tup3 (a := (0, 0, 9)) (by unfold nextF EnM.pl; rw [if_pos (.inr h17)])), hw.bel⟩
  ·refine s9 ?_
   refine kJ [(0, _)] ?_
   refine xD [0, 1, 2, 3, 4, 5, 6, 7, 8, 9, 10, 11, 12, 13, 14, 15, 16, 17] [3, 7, 13] ?_
   refine s3 ?_
   refine dL rfl (vOld rfl rfl (fun h => h) (cellB_get hc rfl)) ?_
   refine s3 ?_
   refine dL rfl (vOld rfl rfl (fun h => h) (cellB_get hc rfl)) ?_
   refine s5 ?_
   refine dL rfl (vOld rfl rfl (fun h => h) (cellB_get hc rfl)) ?_
   refine s7 ?_
   refine JR_three rfl (rr_tmp rfl) (rr_tmp rfl) (rr_tmp rfl) ?_
   intro w' hw
   have e : nextF (EnM.pl (⟨⟨kf, kt, ks, ke, kp⟩, fr, l, sA, sk, tn, none⟩ : EnM)) = ((fr + tn) % 2, tn / 2, 0) := by unfold nextF EnM.pl; rw [if_neg (fun h => h.elim (fun h => by cases h) h17)]
   exact ⟨congrArg Ending.returned ((congrArg Value.tuple (by rw [e]))), hw.bel⟩
 ·have hc : (cellB b [.int .i64 kf, .int .i64 kt, .int .i64 ks, .int .i64 ke, .bool kp, .bool true, .int .i64 fr, .slice sA l.length sk, .int .i64 tn, .pointer (some ⟨pm.b, 0, none⟩)] 217).holds w := h.cell

  refine s11 ?_
  refine aCB (fun w hw => is_any b kf kt ks ke kp true fr sA l.length sk tn _ w (It.up_cell hc hw.bel)) ?_
  refine aBoolT ?_ rfl
  refine s6 ?_
  refine kJ [(0, _)] ?_
  refine s4 ?_
  refine aV (vOld rfl rfl (fun h => h) (cellB_get hc rfl)) ?_
  refine aP (pNeqP (by kernel_rfl) rfl rfl) ?_
  refine aBoolT ?_ rfl
  refine s9 ?_
  refine kJ [] ?_
  refine s9 ?_
  refine JR_three rfl (rr_tmp rfl) (rr_tmp rfl) (rr_tmp rfl) ?_
  intro w' hw
  exact ⟨congrArg Ending.returned (tup3 (a := (0, 0, 9)) (by unfold nextF EnM.pl; rw [if_pos (.inl rfl)])), hw.bel⟩
set_option maxRecDepth 100000 in
set_option maxHeartbeats 4000000 in
theorem take_any (b : Nat) (e : EnM) (oA : Option Addr) (ol : List St) (ok : Nat) (og : Bool) (w : World) (h0 : Wd ⟨w, (allI [endC b e]).foot, none, []⟩ [endC b e] w) (hx : ∀ W, Wd ⟨w, (allI [endC b e]).foot, none, []⟩ [] W → Arr 4 eT W (.slice oA ol.length ok) ol) (hl : ol.length ≤ 16) (ht : 0 ≤ e.tn ∧ e.tn ≤ 16) : Calls Tryz.prog 105 #[.pointer (some ⟨b, 0, none⟩), .agg #[.slice oA ol.length ok, .bool og]] w (RetL [endC b e] (fun _ : Option Addr × Nat => True) (fun _ => .tuple #[]) (fun t => [endC b { e with p := none, l := ol, sA := t.1, sk := t.2, tn := if og = true then e.tn else e.tn + 1 }, ownB 43 4 t.1 ol.length t.2 (ol.flatMap eT)]) w) := by
 obtain ⟨⟨kf, kt, ks, ke, kp⟩, fr, l, sA, sk, tn, pd⟩ := e
 dsimp only at ht
 refine J_start (B := ⟨w, (allI [endC b (⟨⟨kf, kt, ks, ke, kp⟩, fr, l, sA, sk, tn, pd⟩ : EnM)]).foot, none, []⟩) rfl rfl (vs := [.pointer (some ⟨b, 0, none⟩), .agg #[.slice oA ol.length ok, .bool og]]) (k := 21) (l := [(0, .pointer (some ⟨b, 0, none⟩)), (1, .agg #[.slice oA ol.length ok, .bool og])]) Tryz.func105 rfl rfl Tryz.ntmps105 rfl rfl ((show Wd ⟨w, (allI [endC b (⟨⟨kf, kt, ks, ke, kp⟩, fr, l, sA, sk, tn, pd⟩ : EnM)]).foot, none, []⟩ [cellB b [.int .i64 kf, .int .i64 kt, .int .i64 ks, .int .i64 ke, .bool kp, .bool true, .int .i64 fr, .slice sA l.length sk, .int .i64 tn, .pointer (pdA pd)] 217] w from h0)) ?_
 refine s2 ?_
 refine aW (oX [_, _]) (fun b3 hb3 => ?_)
 refine s8 ?_
 refine aS (oS (fun w hw => CloneT ol _ w (hx w (hw.pick (Pk.nil _))) (by omega))) (fun A8 c8 => ?_)
 refine s9 ?_
 refine kJ [(0, _), (3, _)] ?_
 refine s3 ?_
 refine JL_bool (fun h14 => ?_) (fun h14 => ?_)
 ·refine s5 ?_
  refine JR_end rfl ?_
  intro w' hw
  subst h14
  exact ⟨(A8, c8), trivial, rfl, hw.pick (by repeat constructor)⟩
 ·refine s4 ?_
  refine kJ [(0, _)] ?_
  refine s10 ?_
  refine JR_end rfl ?_
  intro w' hw
  subst h14
  exact ⟨(A8, c8), trivial, rfl, hw.pick (by repeat constructor)⟩
set_option maxRecDepth 100000 in
theorem pEqlP {n : Nat} {l : Sl} {o : Oper} {x : Operand} {ty t : TypeId} {p : Option Addr} (ht : Tryz.prog.underlying t = some (.pointer (Tryz.prog.pointee t))) (ho : o.op = .binOp .eql t x (.const (.pointer none)) ty) (hx : evl l x = some (.pointer p)) : RP Tryz.prog n l o (.bool p.isNone) := rp2 hx (y := .const (.pointer none)) rfl (fun ρ h1 h2 w => by
 have h := run_eql_pointer_nil (P := Tryz.prog) w t p ht
 unfold execOp
 simp only [ho, h1, h2]
 simp [h, eqGuard])
/-- What Pending says. -/
def RetPe (p : Option PdM) (w : World) (e : Ending) (w' : World) : Prop := match p with
 | none => Back (.tuple #[.agg #[.int .i64 0, .int .i64 0, .slice none 0 0], .int .i64 9]) w e w'
 | some m => Ret w (OcP (m.t.L.map oP)) (fun t => .tuple #[Ruv m.r m.h t, .int .i64 0]) ocI e w'
set_option maxRecDepth 100000 in
set_option maxHeartbeats 4000000 in
theorem Pending_any (b : Nat) (e : EnM) (w : World) (h : EndW w b e) (hok : EnOk e.pl) (hn : ∀ m, e.p = some m → ∀ p ∈ m.t.L, p.d.n = p.d.l.length ∧ p.d.l.length ≤ 16) : Calls Tryz.prog 54 #[.pointer (some ⟨b, 0, none⟩)] w (RetPe e.p w) := by
 obtain ⟨⟨kf, kt, ks, ke, kp⟩, fr, l, sA, sk, tn, pd⟩ := e
 refine J_enter (fun _ => False) (vs := [.pointer (some ⟨b, 0, none⟩)]) (k := 22) (l := [(0, .pointer (some ⟨b, 0, none⟩))]) Tryz.func54 rfl rfl Tryz.ntmps54 rfl rfl (Wd.start _) ?_
 refine s1 ?_
 rcases pd with _ | pm
 ·have hc : (cellB b [.int .i64 kf, .int .i64 kt, .int .i64 ks, .int .i64 ke, .bool kp, .bool true, .int .i64 fr, .slice sA l.length sk, .int .i64 tn, .pointer none] 217).holds w := h.cell

  refine s1 ?_
  refine aW oA (fun b2 hb2 => ?_)
  refine s8 ?_
  refine aCB (fun w hw => is_any b kf kt ks ke kp true fr sA l.length sk tn _ w (It.up_cell hc hw.bel)) ?_
  refine aBoolT ?_ rfl
  refine s6 ?_
  refine kJ [(0, _), (2, _)] ?_
  refine s4 ?_
  refine aV (vOld rfl rfl (fun h => h) (cellB_get hc rfl)) ?_
  refine aP (pEqlP (by kernel_rfl) rfl rfl) ?_
  refine aBoolT ?_ rfl
  refine s5 ?_
  refine kJ [(2, _)] ?_
  refine s1 ?_
  refine aP (rp_buildC (fun us => [.int .i64 0, .int .i64 0, .slice none 0 0]) rfl rfl (fun w => by kernel_rfl)) ?_
  refine s7 ?_
  refine JR_two rfl (rr_agg (cs := [_, _, _]) rfl Agg.h (Siz.h (k := 3)) (by repeat constructor) (by rfl)) (rr_tmp rfl) ?_
  intro w' hw
  exact ⟨rfl, hw.bel⟩
 ·have hc : (cellB b [.int .i64 kf, .int .i64 kt, .int .i64 ks, .int .i64 ke, .bool kp, .bool true, .int .i64 fr, .slice sA l.length sk, .int .i64 tn, .pointer (some ⟨pm.b, 0, none⟩)] 217).holds w := h.cell
  have hq := (hok.p (pm.r, pm.h, pm.t.L.map oP) rfl).2.1
  dsimp only at hq
  rw [List.length_map] at hq
  refine s1 ?_
  refine aW oA (fun b2 hb2 => ?_)
  refine s8 ?_
  refine aCB (fun w hw => is_any b kf kt ks ke kp true fr sA l.length sk tn _ w (It.up_cell hc hw.bel)) ?_
  refine aBoolT ?_ rfl
  refine s6 ?_
  refine kJ [(0, _), (2, _)] ?_
  refine s4 ?_
  refine aV (vOld rfl rfl (fun h => h) (cellB_get hc rfl)) ?_
  refine aP (pEqlP (by kernel_rfl) rfl rfl) ?_
  refine aBoolF ?_ rfl
  refine s8 ?_
  refine kJ [(0, _), (2, _)] ?_
  refine s4 ?_
  refine aV (vOld rfl rfl (fun h => h) (cellB_get hc rfl)) ?_
  refine s1 ?_
  refine aV (vOldC (cs := [.int .i64 pm.r, .int .i64 pm.h, .slice pm.t.A pm.t.L.length pm.t.c]) rfl rfl (fun h => h) (h.pd pm rfl).1 rfl) ?_
  refine aW (oR (fun w hw => copied_any pm.r pm.h pm.t.L pm.t.A pm.t.c w ((h.pd pm rfl).2.1.up EO hw.bel) (fun p hp => ⟨((h.pd pm rfl).2.2 p hp).up hw.bel, (hn pm rfl p hp).2⟩) (by omega))) (fun t22 ht22 => ?_)
  refine s5 ?_
  refine JR_two rfl (rr_agg (cs := [_, _, _]) rfl Agg.h (Siz.h (k := 3)) (by repeat constructor) (by rfl)) (rr_tmp rfl) ?_
  intro w' hw
  exact ⟨t22, ht22, rfl, hw.pick (by repeat constructor)⟩
end Go.Proofs.YtmcpnoailbmkkaaGreatDoor
/- Layer 7: New, Throw, Choose. -/
namespace Go.Proofs.YtmcpnoailbmkkaaGreatDoor
open Go Go.RowKit Go.Proofs
attribute [local irreducible] J JQ JL JA JD

/-- The end as it begins. -/
def newE (c : Cd) (first power : Int) : En := ⟨c, first, if c.p = true then srt [⟨first, 7, power * 72089600, -229376000⟩, ⟨1 - first, 7, power * 72089600, 39976960⟩] else [], 0, none⟩
def RetNew (c : Cd) (first power : Int) (w : World) (e : Ending) (w' : World) : Prop := if goodR c first power = 0 then Ret w (fun t : Nat × EnM => EnP (newE c first power) t.2) (fun t => .tuple #[.pointer (some ⟨t.1, 0, none⟩), .int .i64 0]) (fun t => endI t.1 t.2) e w' else Back (.tuple #[.pointer none, .int .i64 (goodR c first power)]) w e w'
set_option maxRecDepth 100000 in
set_option maxHeartbeats 4000000 in
theorem New_any (c : Cd) (first power : Int) (w : World) : Calls Tryz.prog 52 #[Cdv c, .int .i64 first, .int .i64 power] w (RetNew c first power w) := by
 obtain ⟨kf, kt, ks, ke, kp⟩ := c
 refine J_enter (fun _ => False) (vs := [.agg #[.int .i64 kf, .int .i64 kt, .int .i64 ks, .int .i64 ke, .bool kp], .int .i64 first, .int .i64 power]) (k := 52) (l := [(0, .agg #[.int .i64 kf, .int .i64 kt, .int .i64 ks, .int .i64 ke, .bool kp]), (1, .int .i64 first), (2, .int .i64 power)]) Tryz.func52 rfl rfl Tryz.ntmps52 rfl rfl (Wd.start _) ?_
 refine s2 ?_
 refine aW (oX [_, _, _, _, _]) (fun b3 hb3 => ?_)
 refine s9 ?_
 refine aCB (fun w hw => CheckCode_any (⟨kf, kt, ks, ke, kp⟩ : Cd) w) ?_
 refine JL_bool (fun h12 => ?_) (fun h12 => ?_)
 ·refine s3 ?_
  refine aCB (fun w hw => rwithin _ _ _ w) ?_
  refine JL_dec (fun h16 => ?_) (fun h16 => ?_)
  ·refine s7 ?_
   refine kJ [(1, _), (2, _), (3, _)] ?_
   refine s2 ?_
   refine aCB (fun w hw => rwithin _ _ _ w) ?_
   refine JL_dec (fun h21 => ?_) (fun h21 => ?_)
   ·refine s4 ?_
    refine JL_dec (fun h25 => ?_) (fun h25 => ?_)
    ·refine s3 ?_
     refine JL_bool (fun h28 => ?_) (fun h28 => ?_)
     ·refine s11 ?_
      refine kJ [(1, _), (2, _), (3, _)] ?_
      refine s3 ?_
      refine aP (rp_buildC (fun us => [us.getD 0 undef, us.getD 1 undef, us.getD 2 undef, .slice none 0 0, .int .i64 0, .pointer none]) rfl rfl (fun w => by kernel_rfl)) ?_
      refine aW (oX [_, _, _, _, _, _, _, _, _, _]) (fun b35 hb35 => ?_)
      refine s5 ?_
      refine kJ [(1, _), (2, _), (3, _), (8, _)] ?_
      refine s3 ?_
      refine JL_bool (fun h37 => ?_) (fun h37 => ?_)
      ·refine s10 ?_
       refine kJ [(1, _), (8, _), (9, _)] ?_
       refine s4 ?_
       refine aP (rp_buildC (fun us => [us.getD 0 undef, us.getD 1 undef]) rfl rfl (fun w => by kernel_rfl)) ?_
       refine aP (rp_buildC (fun us => [us.getD 0 undef, us.getD 1 undef, us.getD 2 undef]) rfl rfl (fun w => by kernel_rfl)) ?_
       refine s3 ?_
       refine aP (rp_buildC (fun us => [us.getD 0 undef, us.getD 1 undef]) rfl rfl (fun w => by kernel_rfl)) ?_
       refine aP (rp_buildC (fun us => [us.getD 0 undef, us.getD 1 undef, us.getD 2 undef]) rfl rfl (fun w => by kernel_rfl)) ?_
       refine aW (ow_sliceC (vs := [_, _, _, _, _, _, _, _]) (ty := 43) rfl rfl (by rfl) rfl rfl (fun _ => by kernel_rfl)) (fun b50 hb50 => ?_)
       refine JL_asOwn (b := b50) (kk := 4) (m := 2) (by repeat constructor) rfl (by omega) ?_
       refine aS (oS (fun w hw => sortedT [(⟨first, 7, power * 72089600, -229376000⟩ : St), ⟨1 - first, 7, power * 72089600, 39976960⟩] _ w (own_arr (A := some ⟨b50, 0, none⟩) (c := 2) (ty := 43) (L := [(⟨first, 7, power * 72089600, -229376000⟩ : St), ⟨1 - first, 7, power * 72089600, 39976960⟩]) ET hw (by repeat constructor) (Nat.le_of_ble_eq_true rfl)) (Nat.le_of_ble_eq_true rfl) (by intro s hs; simp only [List.mem_cons, List.not_mem_nil, or_false] at hs; unfold bnd; rcases hs with rfl | rfl <;> dsimp only <;> omega) (by intro a ha b hb h1 h2; simp only [List.mem_cons, List.not_mem_nil, or_false] at ha hb; rcases ha with rfl | rfl <;> rcases hb with rfl | rfl <;> first | rfl | (dsimp only at h1; omega)))) (fun A51 c51 => ?_)
       refine s6 ?_
       refine kJ [(8, _)] ?_
       refine s7 ?_
       refine JR_two rfl (rr_tmp rfl) (rr_tmp rfl) ?_
       intro w' hw
       have e : goodR (⟨kf, kt, ks, ke, kp⟩ : Cd) first power = 0 := by unfold goodR; rw [if_pos ⟨h12, h16⟩, if_pos ⟨h21, .inl h28⟩]
       unfold RetNew
       rw [e, if_pos rfl]
       exact ⟨(b35, ⟨(⟨kf, kt, ks, ke, kp⟩ : Cd), first, srt [(⟨first, 7, power * 72089600, -229376000⟩ : St), ⟨1 - first, 7, power * 72089600, 39976960⟩], A51, c51, 0, none⟩), ⟨by subst h37; rfl, fun m hm => by cases hm⟩, rfl, hw.pick (by repeat constructor)⟩
      ·refine s6 ?_
       refine J_own0 43 4 ?_
       refine kJ [(8, _)] ?_
       refine s7 ?_
       refine JR_two rfl (rr_tmp rfl) (rr_tmp rfl) ?_
       intro w' hw
       have e : goodR (⟨kf, kt, ks, ke, kp⟩ : Cd) first power = 0 := by unfold goodR; rw [if_pos ⟨h12, h16⟩, if_pos ⟨h21, .inl h28⟩]
       unfold RetNew
       rw [e, if_pos rfl]
       exact ⟨(b35, ⟨(⟨kf, kt, ks, ke, kp⟩ : Cd), first, [], none, 0, 0, none⟩), ⟨by subst h37; rfl, fun m hm => by cases hm⟩, rfl, hw.pick (by repeat constructor)⟩
     ·refine s8 ?_
      refine kJ [] ?_
      refine s8 ?_
      refine JR_two rfl (rr_tmp rfl) (rr_tmp rfl) ?_
      intro w' hw
      have e : goodR (⟨kf, kt, ks, ke, kp⟩ : Cd) first power = 4 := by unfold goodR; rw [if_pos ⟨h12, h16⟩, if_neg (fun h => h.2.elim (fun h => by rw [h28] at h; cases h) h25)]
      unfold RetNew
      rw [e, if_neg (by decide)]
      exact ⟨rfl, hw.bel⟩
    ·refine s14 ?_
     refine kJ [(1, _), (2, _), (3, _)] ?_
     refine s3 ?_
     refine aP (rp_buildC (fun us => [us.getD 0 undef, us.getD 1 undef, us.getD 2 undef, .slice none 0 0, .int .i64 0, .pointer none]) rfl rfl (fun w => by kernel_rfl)) ?_
     refine aW (oX [_, _, _, _, _, _, _, _, _, _]) (fun b35 hb35 => ?_)
     refine s5 ?_
     refine kJ [(1, _), (2, _), (3, _), (8, _)] ?_
     refine s3 ?_
     refine JL_bool (fun h37 => ?_) (fun h37 => ?_)
     ·refine s10 ?_
      refine kJ [(1, _), (8, _), (9, _)] ?_
      refine s4 ?_
      refine aP (rp_buildC (fun us => [us.getD 0 undef, us.getD 1 undef]) rfl rfl (fun w => by kernel_rfl)) ?_
      refine aP (rp_buildC (fun us => [us.getD 0 undef, us.getD 1 undef, us.getD 2 undef]) rfl rfl (fun w => by kernel_rfl)) ?_
      refine s3 ?_
      refine aP (rp_buildC (fun us => [us.getD 0 undef, us.getD 1 undef]) rfl rfl (fun w => by kernel_rfl)) ?_
      refine aP (rp_buildC (fun us => [us.getD 0 undef, us.getD 1 undef, us.getD 2 undef]) rfl rfl (fun w => by kernel_rfl)) ?_
      refine aW (ow_sliceC (vs := [_, _, _, _, _, _, _, _]) (ty := 43) rfl rfl (by rfl) rfl rfl (fun _ => by kernel_rfl)) (fun b50 hb50 => ?_)
      refine JL_asOwn (b := b50) (kk := 4) (m := 2) (by repeat constructor) rfl (by omega) ?_
      refine aS (oS (fun w hw => sortedT [(⟨first, 7, power * 72089600, -229376000⟩ : St), ⟨1 - first, 7, power * 72089600, 39976960⟩] _ w (own_arr (A := some ⟨b50, 0, none⟩) (c := 2) (ty := 43) (L := [(⟨first, 7, power * 72089600, -229376000⟩ : St), ⟨1 - first, 7, power * 72089600, 39976960⟩]) ET hw (by repeat constructor) (Nat.le_of_ble_eq_true rfl)) (Nat.le_of_ble_eq_true rfl) (by intro s hs; simp only [List.mem_cons, List.not_mem_nil, or_false] at hs; unfold bnd; rcases hs with rfl | rfl <;> dsimp only <;> omega) (by intro a ha b hb h1 h2; simp only [List.mem_cons, List.not_mem_nil, or_false] at ha hb; rcases ha with rfl | rfl <;> rcases hb with rfl | rfl <;> first | rfl | (dsimp only at h1; omega)))) (fun A51 c51 => ?_)
      refine s6 ?_
      refine kJ [(8, _)] ?_
      refine s7 ?_
      refine JR_two rfl (rr_tmp rfl) (rr_tmp rfl) ?_
      intro w' hw
      have e : goodR (⟨kf, kt, ks, ke, kp⟩ : Cd) first power = 0 := by unfold goodR; rw [if_pos ⟨h12, h16⟩, if_pos ⟨h21, .inr (by omega)⟩]
      unfold RetNew
      rw [e, if_pos rfl]
      exact ⟨(b35, ⟨(⟨kf, kt, ks, ke, kp⟩ : Cd), first, srt [(⟨first, 7, power * 72089600, -229376000⟩ : St), ⟨1 - first, 7, power * 72089600, 39976960⟩], A51, c51, 0, none⟩), ⟨by subst h37; rfl, fun m hm => by cases hm⟩, rfl, hw.pick (by repeat constructor)⟩
     ·refine s6 ?_
      refine J_own0 43 4 ?_
      refine kJ [(8, _)] ?_
      refine s7 ?_
      refine JR_two rfl (rr_tmp rfl) (rr_tmp rfl) ?_
      intro w' hw
      have e : goodR (⟨kf, kt, ks, ke, kp⟩ : Cd) first power = 0 := by unfold goodR; rw [if_pos ⟨h12, h16⟩, if_pos ⟨h21, .inr (by omega)⟩]
      unfold RetNew
      rw [e, if_pos rfl]
      exact ⟨(b35, ⟨(⟨kf, kt, ks, ke, kp⟩ : Cd), first, [], none, 0, 0, none⟩), ⟨by subst h37; rfl, fun m hm => by cases hm⟩, rfl, hw.pick (by repeat constructor)⟩
   ·refine s15 ?_
    refine kJ [] ?_
    refine s8 ?_
    refine JR_two rfl (rr_tmp rfl) (rr_tmp rfl) ?_
    intro w' hw
    have e : goodR (⟨kf, kt, ks, ke, kp⟩ : Cd) first power = 4 := by unfold goodR; rw [if_pos ⟨h12, h16⟩, if_neg (fun h => h21 h.1)]
    unfold RetNew
    rw [e, if_neg (by decide)]
    exact ⟨rfl, hw.bel⟩
  ·refine s7 ?_
   refine kJ [] ?_
   refine s8 ?_
   refine JR_two rfl (rr_tmp rfl) (rr_tmp rfl) ?_
   intro w' hw
   have e : goodR (⟨kf, kt, ks, ke, kp⟩ : Cd) first power = 2 := by unfold goodR; rw [if_neg (fun h => h16 h.2)]
   unfold RetNew
   rw [e, if_neg (by decide)]
   exact ⟨rfl, hw.bel⟩
 ·refine s11 ?_
  refine kJ [] ?_
  refine s8 ?_
  refine JR_two rfl (rr_tmp rfl) (rr_tmp rfl) ?_
  intro w' hw
  have e : goodR (⟨kf, kt, ks, ke, kp⟩ : Cd) first power = 2 := by unfold goodR; rw [if_neg (fun h => by rw [h.1] at h12; cases h12)]
  unfold RetNew
  rw [e, if_neg (by decide)]
  exact ⟨rfl, hw.bel⟩
/-- Why a throw is none, or 0; the ruling about it; the end behind it. -/
def thrE (E : En) (m : List St) (x : Th) : Int := if (nextF E).2.2 ≠ 0 then (nextF E).2.2 else if x.team = (nextF E).1 ∧ x.n = (nextF E).2.1 ∧ thrB E.l m x = true then 0 else 2
def rulE (E : En) (m : List St) (x : Th) : Int := ruleF E.c E.tn E.l m x
def outE (E : En) (m : List St) (x : Th) : List (List St × Bool) := outF E.l m x (rulE E m x)
def thrN (E : En) (m : List St) (x : Th) : En := if (outE E m x).length = 1 then tookE E (((outE E m x).head?).getD ([], false)) else { E with p := some (rulE E m x, choF x (rulE E m x), outE E m x) }
theorem next_iff {E : En} : (nextF E).2.2 = 0 ↔ E.p = none ∧ E.tn ≠ 2 * E.c.e := by
 unfold nextF
 by_cases h1 : E.p.isSome = true ∨ E.tn = 2 * E.c.e
 ·rw [if_pos h1]
  refine ⟨fun h => (by cases h), fun h => ?_⟩
  rcases h1 with h1 | h1
  ·rw [h.1] at h1; cases h1
  ·exact absurd h1 h.2
 ·rw [if_neg h1]
  refine ⟨fun _ => ⟨?_, fun h => h1 (.inr h)⟩, fun _ => rfl⟩
  cases hp : E.p with
  | none => rfl
  | some r => exact absurd (.inl (by rw [hp]; rfl)) h1
theorem thr_why {E : En} {m : List St} {x : Th} (h : thrE E m x ≠ 0) (h0 : ¬ (nextF E).2.2 ≠ 0) : x.team ≠ (nextF E).1 ∨ (x.team = (nextF E).1 ∧ x.n ≠ (nextF E).2.1) ∨ (x.team = (nextF E).1 ∧ x.n = (nextF E).2.1 ∧ thrB E.l m x = false) := by
 unfold thrE at h
 rw [if_neg h0] at h
 by_cases h1 : x.team = (nextF E).1
 ·by_cases h2 : x.n = (nextF E).2.1
  ·refine .inr (.inr ⟨h1, h2, ?_⟩)
   cases h3 : thrB E.l m x with
   | false => rfl
   | true => exact absurd (by rw [if_pos ⟨h1, h2, h3⟩]) h
  ·exact .inr (.inl ⟨h1, h2⟩)
 ·exact .inl h1
theorem thr_2 {E : En} {m : List St} {x : Th} (h : thrE E m x ≠ 0) (h0 : ¬ (nextF E).2.2 ≠ 0) : thrE E m x = 2 := by
 unfold thrE at h ⊢
 rw [if_neg h0] at h ⊢
 split at h
 ·exact absurd rfl h
 ·rename_i h1; rw [if_neg h1]
theorem thr_0 {E : En} {m : List St} {x : Th} (h : thrE E m x = 0) : (nextF E).2.2 = 0 ∧ x.team = (nextF E).1 ∧ x.n = (nextF E).2.1 ∧ thrB E.l m x = true := by
 unfold thrE at h
 by_cases h0 : (nextF E).2.2 ≠ 0
 ·rw [if_pos h0] at h; exact absurd h h0
 ·rw [if_neg h0] at h
  split at h
  ·rename_i h1; exact ⟨Decidable.not_not.1 h0, h1⟩
  ·cases h
theorem oc_arr {W : World} {L : List Oc} {p : Oc} (h : (grpB (L.map rwB)).holds W) (hp : p ∈ L) (hn : p.d.n = p.d.l.length) (hl : p.d.l.length ≤ 16) : Arr 4 eT W (.slice p.d.A p.d.l.length p.d.c) p.d.l := by
 have h2 : (rwB p).holds W := h.1 _ (List.mem_map.2 ⟨p, hp, rfl⟩)
 have h3 : W.ownsRow 0 43 4 (.slice p.d.A p.d.n p.d.c) p.d.n (p.d.l.flatMap eT) := h2
 rw [hn] at h3
 exact Arr.of_own ET h3 (by omega)
theorem thr_one {E : En} {m : List St} {x : Th} {q : List St × Bool} (h : outE E m x = [q]) : thrN E m x = tookE E q := by unfold thrN; rw [h]; rfl
theorem thr_many {E : En} {m : List St} {x : Th} (h : (outE E m x).length ≠ 1) : thrN E m x = { E with p := some (rulE E m x, choF x (rulE E m x), outE E m x) } := by unfold thrN; rw [if_neg h]
set_option maxRecDepth 100000 in
set_option maxHeartbeats 4000000 in
theorem Throw_no (b : Nat) (e : EnM) (m : List St) (x : Th) (A2 : Option Addr) (cap2 : Nat) (w : World) (h : EndW w b e) (hok : EnOk e.pl) (hrow2 : Arr 4 eT w (.slice A2 m.length cap2) m) (hq : thrE e.pl m x ≠ 0) : Calls Tryz.prog 53 #[.pointer (some ⟨b, 0, none⟩), Thv x A2 m.length cap2] w (Back (.tuple #[.agg #[.int .i64 0, .int .i64 0, .slice none 0 0], .int .i64 (thrE e.pl m x)]) w) := by
 obtain ⟨⟨kf, kt, ks, ke, kp⟩, fr, l, sA, sk, tn, pd⟩ := e
 obtain ⟨xteam, xnn, xlate, xshort, xhow⟩ := x
 dsimp only [Thv]
 have hrow20 := hrow2
 refine J_enter (fun _ => False) (vs := [.pointer (some ⟨b, 0, none⟩), .agg #[.int .i64 xteam, .int .i64 xnn, .bool xlate, .bool xshort, .int .i64 xhow, .slice A2 m.length cap2]]) (k := 74) (l := [(0, .pointer (some ⟨b, 0, none⟩)), (1, .agg #[.int .i64 xteam, .int .i64 xnn, .bool xlate, .bool xshort, .int .i64 xhow, .slice A2 m.length cap2])]) Tryz.func53 rfl rfl Tryz.ntmps53 rfl rfl (Wd.start _) ?_
 refine s1 ?_
 rcases pd with _ | pm
 ·have hc : (cellB b [.int .i64 kf, .int .i64 kt, .int .i64 ks, .int .i64 ke, .bool kp, .bool true, .int .i64 fr, .slice sA l.length sk, .int .i64 tn, .pointer none] 217).holds w := h.cell

  refine s1 ?_
  refine aW (oX [_, _, _, _, _, _]) (fun b3 hb3 => ?_)
  refine aW oA (fun b4 hb4 => ?_)
  refine s6 ?_
  refine aCB (fun w hw => Next_any b (⟨⟨kf, kt, ks, ke, kp⟩, fr, l, sA, sk, tn, none⟩ : EnM) w (h.up hw.bel) hok) ?_
  refine s12 ?_
  refine kJ [(0, _), (3, _), (4, _), (6, _), (7, _), (8, _)] ?_
  refine s3 ?_
  refine JL_dec (fun h19 => ?_) (fun h19 => ?_)
  ·refine s5 ?_
   refine kJ [(4, _), (8, _)] ?_
   refine s1 ?_
   refine aP (rp_buildC (fun us => [.int .i64 0, .int .i64 0, .slice none 0 0]) rfl rfl (fun w => by kernel_rfl)) ?_
   refine s8 ?_
   refine JR_two rfl (rr_agg (cs := [_, _, _]) rfl Agg.h (Siz.h (k := 3)) (by repeat constructor) (by rfl)) (rr_tmp rfl) ?_
   intro w' hw
   have e : thrE (EnM.pl (⟨⟨kf, kt, ks, ke, kp⟩, fr, l, sA, sk, tn, none⟩ : EnM)) m (⟨xteam, xnn, xlate, xshort, xhow⟩ : Th) = (nextF (EnM.pl (⟨⟨kf, kt, ks, ke, kp⟩, fr, l, sA, sk, tn, none⟩ : EnM))).2.2 := by unfold thrE; rw [if_pos h19]
   exact ⟨by rw [e], hw.bel⟩
  ·refine s5 ?_
   rcases thr_why hq h19 with h1 | ⟨h1, h2⟩ | ⟨h1, h2, h3⟩
   ·refine kJ [(0, _), (3, _), (4, _), (6, _), (7, _)] ?_
    refine xD [0, 1, 2, 3, 4, 5, 6, 7, 8, 9, 10, 11, 12, 13, 14, 15, 16, 17, 18, 19] [1, 6, 14, 15] ?_
    refine s4 ?_
    refine dDecT ?_ h1
    refine s20 ?_
    refine kJ [(4, _)] ?_
    refine s1 ?_
    refine aP (rp_buildC (fun us => [.int .i64 0, .int .i64 0, .slice none 0 0]) rfl rfl (fun w => by kernel_rfl)) ?_
    refine s7 ?_
    refine JR_two rfl (rr_agg (cs := [_, _, _]) rfl Agg.h (Siz.h (k := 3)) (by repeat constructor) (by rfl)) (rr_tmp rfl) ?_
    intro w' hw
    exact ⟨by rw [thr_2 hq h19], hw.bel⟩
   ·refine kJ [(0, _), (3, _), (4, _), (6, _), (7, _)] ?_
    refine xD [0, 1, 2, 3, 4, 5, 6, 7, 8, 9, 10, 11, 12, 13, 14, 15, 16, 17, 18, 19] [1, 6, 14, 15] ?_
    refine s4 ?_
    refine dDecF ?_ (fun h => h h1)
    refine s5 ?_
    refine dDecT ?_ h2
    refine s15 ?_
    refine kJ [(4, _)] ?_
    refine s1 ?_
    refine aP (rp_buildC (fun us => [.int .i64 0, .int .i64 0, .slice none 0 0]) rfl rfl (fun w => by kernel_rfl)) ?_
    refine s7 ?_
    refine JR_two rfl (rr_agg (cs := [_, _, _]) rfl Agg.h (Siz.h (k := 3)) (by repeat constructor) (by rfl)) (rr_tmp rfl) ?_
    intro w' hw
    exact ⟨by rw [thr_2 hq h19], hw.bel⟩
   ·refine kJ [(0, _), (3, _), (4, _), (6, _), (7, _)] ?_
    refine xD [0, 1, 2, 3, 4, 5, 6, 7, 8, 9, 10, 11, 12, 13, 14, 15, 16, 17, 18, 19] [1, 6, 14, 15] ?_
    refine s4 ?_
    refine dDecF ?_ (fun h => h h1)
    refine s5 ?_
    refine dDecF ?_ (fun h => h h2)
    refine s5 ?_
    refine dL rfl (vOld rfl rfl (fun h => h) (cellB_get hc rfl)) ?_
    refine s1 ?_
    refine dCB rfl (fun w hw => CheckThrow_any l m (⟨xteam, xnn, xlate, xshort, xhow⟩ : Th) _ A2 cap2 w (h.row.up ET hw.bel) (hrow20.up ET hw.bel)) ?_
    refine dBoolF ?_ h3
    refine s7 ?_
    refine kJ [(4, _)] ?_
    refine s1 ?_
    refine aP (rp_buildC (fun us => [.int .i64 0, .int .i64 0, .slice none 0 0]) rfl rfl (fun w => by kernel_rfl)) ?_
    refine s7 ?_
    refine JR_two rfl (rr_agg (cs := [_, _, _]) rfl Agg.h (Siz.h (k := 3)) (by repeat constructor) (by rfl)) (rr_tmp rfl) ?_
    intro w' hw
    exact ⟨by rw [thr_2 hq h19], hw.bel⟩
 ·have hc : (cellB b [.int .i64 kf, .int .i64 kt, .int .i64 ks, .int .i64 ke, .bool kp, .bool true, .int .i64 fr, .slice sA l.length sk, .int .i64 tn, .pointer (some ⟨pm.b, 0, none⟩)] 217).holds w := h.cell

  refine s1 ?_
  refine aW (oX [_, _, _, _, _, _]) (fun b3 hb3 => ?_)
  refine aW oA (fun b4 hb4 => ?_)
  refine s6 ?_
  refine aCB (fun w hw => Next_any b (⟨⟨kf, kt, ks, ke, kp⟩, fr, l, sA, sk, tn, (some pm)⟩ : EnM) w (h.up hw.bel) hok) ?_
  refine s12 ?_
  refine kJ [(0, _), (3, _), (4, _), (6, _), (7, _), (8, _)] ?_
  refine s3 ?_
  refine JL_dec (fun h19 => ?_) (fun h19 => ?_)
  ·refine s5 ?_
   refine kJ [(4, _), (8, _)] ?_
   refine s1 ?_
   refine aP (rp_buildC (fun us => [.int .i64 0, .int .i64 0, .slice none 0 0]) rfl rfl (fun w => by kernel_rfl)) ?_
   refine s8 ?_
   refine JR_two rfl (rr_agg (cs := [_, _, _]) rfl Agg.h (Siz.h (k := 3)) (by repeat constructor) (by rfl)) (rr_tmp rfl) ?_
   intro w' hw
   have e : thrE (EnM.pl (⟨⟨kf, kt, ks, ke, kp⟩, fr, l, sA, sk, tn, (some pm)⟩ : EnM)) m (⟨xteam, xnn, xlate, xshort, xhow⟩ : Th) = (nextF (EnM.pl (⟨⟨kf, kt, ks, ke, kp⟩, fr, l, sA, sk, tn, (some pm)⟩ : EnM))).2.2 := by unfold thrE; rw [if_pos h19]
   exact ⟨by rw [e], hw.bel⟩
  ·refine s5 ?_
   rcases thr_why hq h19 with h1 | ⟨h1, h2⟩ | ⟨h1, h2, h3⟩
   ·refine kJ [(0, _), (3, _), (4, _), (6, _), (7, _)] ?_
    refine xD [0, 1, 2, 3, 4, 5, 6, 7, 8, 9, 10, 11, 12, 13, 14, 15, 16, 17, 18, 19] [1, 6, 14, 15] ?_
    refine s4 ?_
    refine dDecT ?_ h1
    refine s20 ?_
    refine kJ [(4, _)] ?_
    refine s1 ?_
    refine aP (rp_buildC (fun us => [.int .i64 0, .int .i64 0, .slice none 0 0]) rfl rfl (fun w => by kernel_rfl)) ?_
    refine s7 ?_
    refine JR_two rfl (rr_agg (cs := [_, _, _]) rfl Agg.h (Siz.h (k := 3)) (by repeat constructor) (by rfl)) (rr_tmp rfl) ?_
    intro w' hw
    exact ⟨by rw [thr_2 hq h19], hw.bel⟩
   ·refine kJ [(0, _), (3, _), (4, _), (6, _), (7, _)] ?_
    refine xD [0, 1, 2, 3, 4, 5, 6, 7, 8, 9, 10, 11, 12, 13, 14, 15, 16, 17, 18, 19] [1, 6, 14, 15] ?_
    refine s4 ?_
    refine dDecF ?_ (fun h => h h1)
    refine s5 ?_
    refine dDecT ?_ h2
    refine s15 ?_
    refine kJ [(4, _)] ?_
    refine s1 ?_
    refine aP (rp_buildC (fun us => [.int .i64 0, .int .i64 0, .slice none 0 0]) rfl rfl (fun w => by kernel_rfl)) ?_
    refine s7 ?_
    refine JR_two rfl (rr_agg (cs := [_, _, _]) rfl Agg.h (Siz.h (k := 3)) (by repeat constructor) (by rfl)) (rr_tmp rfl) ?_
    intro w' hw
    exact ⟨by rw [thr_2 hq h19], hw.bel⟩
   ·refine kJ [(0, _), (3, _), (4, _), (6, _), (7, _)] ?_
    refine xD [0, 1, 2, 3, 4, 5, 6, 7, 8, 9, 10, 11, 12, 13, 14, 15, 16, 17, 18, 19] [1, 6, 14, 15] ?_
    refine s4 ?_
    refine dDecF ?_ (fun h => h h1)
    refine s5 ?_
    refine dDecF ?_ (fun h => h h2)
    refine s5 ?_
    refine dL rfl (vOld rfl rfl (fun h => h) (cellB_get hc rfl)) ?_
    refine s1 ?_
    refine dCB rfl (fun w hw => CheckThrow_any l m (⟨xteam, xnn, xlate, xshort, xhow⟩ : Th) _ A2 cap2 w (h.row.up ET hw.bel) (hrow20.up ET hw.bel)) ?_
    refine dBoolF ?_ h3
    refine s7 ?_
    refine kJ [(4, _)] ?_
    refine s1 ?_
    refine aP (rp_buildC (fun us => [.int .i64 0, .int .i64 0, .slice none 0 0]) rfl rfl (fun w => by kernel_rfl)) ?_
    refine s7 ?_
    refine JR_two rfl (rr_agg (cs := [_, _, _]) rfl Agg.h (Siz.h (k := 3)) (by repeat constructor) (by rfl)) (rr_tmp rfl) ?_
    intro w' hw
    exact ⟨by rw [thr_2 hq h19], hw.bel⟩
theorem ddP_len : ∀ (L r : List (List St × Bool)), (L.foldl (fun r o => if r.any (fun p => decide (p = o)) = true then r else r ++ [o]) r).length ≤ r.length + L.length
 | [], r => by simp
 | o :: L, r => by
  rw [List.foldl_cons]
  have h := ddP_len L (if r.any (fun p => decide (p = o)) = true then r else r ++ [o])
  refine Nat.le_trans h ?_
  split
  ·simp <;> omega
  ·simp <;> omega
theorem ddP_le (L : List (List St × Bool)) : (ddP L).length ≤ L.length := by have h := ddP_len L []; simpa [ddP] using h
theorem outF_len (l m : List St) (x : Th) (r : Int) : (outF l m x r).length ≤ 3 := by
 unfold outF
 repeat' split
 all_goals exact Nat.le_trans (ddP_le _) (by simp)
set_option maxRecDepth 100000 in
set_option maxHeartbeats 4000000 in
theorem Throw_yes (b : Nat) (e : EnM) (m : List St) (x : Th) (A2 : Option Addr) (cap2 : Nat) (w : World) (h0 : Wd ⟨w, (allI [grpB (endI b e)]).foot, none, []⟩ [grpB (endI b e)] w) (hok : EnOk e.pl) (hx : ∀ W, Wd ⟨w, (allI [grpB (endI b e)]).foot, none, []⟩ [] W → Arr 4 eT W (.slice A2 m.length cap2) m) (hq : thrE e.pl m x = 0) : Calls Tryz.prog 53 #[.pointer (some ⟨b, 0, none⟩), Thv x A2 m.length cap2] w (RetL [grpB (endI b e)] (fun t : EnM × OcT => EnP (thrN e.pl m x) t.1 ∧ OcP (outE e.pl m x) t.2) (fun t => .tuple #[Ruv (rulE e.pl m x) (choF x (rulE e.pl m x)) t.2, .int .i64 0]) (fun t => grpB (endI b t.1) :: ocI t.2) w) := by
 obtain ⟨z0, z1, z2, z3⟩ := thr_0 hq
 obtain ⟨⟨kf, kt, ks, ke, kp⟩, fr, l, sA, sk, tn, pd⟩ := e
 have hp := (next_iff.1 z0).1
 obtain rfl : pd = none := by
  cases pd with
  | none => rfl
  | some m => cases hp
 obtain ⟨xteam, xnn, xlate, xshort, xhow⟩ := x
 have hl16 := hok.l
 have htn := hok.tn
 have he := hok.e
 dsimp only [EnM.pl] at hl16 htn he
 dsimp only [Thv]
 refine J_start (B := ⟨w, (allI [grpB (endI b (⟨⟨kf, kt, ks, ke, kp⟩, fr, l, sA, sk, tn, none⟩ : EnM))]).foot, none, []⟩) rfl rfl (vs := [.pointer (some ⟨b, 0, none⟩), .agg #[.int .i64 xteam, .int .i64 xnn, .bool xlate, .bool xshort, .int .i64 xhow, .slice A2 m.length cap2]]) (k := 74) (l := [(0, .pointer (some ⟨b, 0, none⟩)), (1, .agg #[.int .i64 xteam, .int .i64 xnn, .bool xlate, .bool xshort, .int .i64 xhow, .slice A2 m.length cap2])]) Tryz.func53 rfl rfl Tryz.ntmps53 rfl rfl ((show Wd ⟨w, (allI [grpB (endI b (⟨⟨kf, kt, ks, ke, kp⟩, fr, l, sA, sk, tn, none⟩ : EnM))]).foot, none, []⟩ [cellB b [.int .i64 kf, .int .i64 kt, .int .i64 ks, .int .i64 ke, .bool kp, .bool true, .int .i64 fr, .slice sA l.length sk, .int .i64 tn, .pointer none] 217, ownB 43 4 sA l.length sk (l.flatMap eT)] w from h0.opn (Pk.refl _))) ?_
 refine s2 ?_
 refine aW (oX [_, _, _, _, _, _]) (fun b3 hb3 => ?_)
 refine aW oA (fun b4 hb4 => ?_)
 refine s6 ?_
 refine aCB (fun w hw => Next_any b (⟨⟨kf, kt, ks, ke, kp⟩, fr, l, sA, sk, tn, none⟩ : EnM) w ⟨(hw.ok (cellB b [.int .i64 kf, .int .i64 kt, .int .i64 ks, .int .i64 ke, .bool kp, .bool true, .int .i64 fr, .slice sA l.length sk, .int .i64 tn, .pointer none] 217) (by repeat constructor)).1, own_arr (A := sA) (c := sk) (L := l) ET hw (by repeat constructor) (by omega), fun m hm => by cases hm⟩ hok) ?_
 refine s12 ?_
 refine kJ [(0, _), (3, _), (4, _), (6, _), (7, _), (8, _)] ?_
 refine s3 ?_
 refine aDecF ?_ (fun h => h z0)
 refine s5 ?_
 refine kJ [(0, _), (3, _), (4, _), (6, _), (7, _)] ?_
 refine xD [0, 1, 2, 3, 4, 5, 6, 7, 8, 9, 10, 11, 12, 13, 14, 15, 16, 17, 18, 19] [1, 6, 14, 15] ?_
 refine s4 ?_
 refine dDecF ?_ (fun h => h z1)
 refine s5 ?_
 refine dDecF ?_ (fun h => h z2)
 refine s7 ?_
 refine dCB rfl (fun w hw => CheckThrow_any l m (⟨xteam, xnn, xlate, xshort, xhow⟩ : Th) _ A2 cap2 w (own_arr (A := sA) (c := sk) (L := l) ET hw (by repeat constructor) (by omega)) (hx w (hw.pick (Pk.nil _)))) ?_
 refine dBoolT ?_ z3
 refine s9 ?_
 refine xC (T := Nat × OcT) (fun q => OcP (outE (EnM.pl (⟨⟨kf, kt, ks, ke, kp⟩, fr, l, sA, sk, tn, none⟩ : EnM)) m (⟨xteam, xnn, xlate, xshort, xhow⟩ : Th)) q.2) (fun q => [(0, .pointer (some ⟨b, 0, none⟩)), (4, .pointer (some ⟨b4, 0, none⟩)), (9, .pointer (some ⟨q.1, 0, none⟩))]) (fun q => [cellB b [.int .i64 kf, .int .i64 kt, .int .i64 ks, .int .i64 ke, .bool kp, .bool true, .int .i64 fr, .slice sA l.length sk, .int .i64 tn, .pointer none] 217, ownB 43 4 sA l.length sk (l.flatMap eT), cellB b4 [.int .i64 0, .int .i64 0, .slice none 0 0] 30, cellB q.1 [.int .i64 (rulE (EnM.pl (⟨⟨kf, kt, ks, ke, kp⟩, fr, l, sA, sk, tn, none⟩ : EnM)) m (⟨xteam, xnn, xlate, xshort, xhow⟩ : Th)), .int .i64 (choF (⟨xteam, xnn, xlate, xshort, xhow⟩ : Th) (rulE (EnM.pl (⟨⟨kf, kt, ks, ke, kp⟩, fr, l, sA, sk, tn, none⟩ : EnM)) m (⟨xteam, xnn, xlate, xshort, xhow⟩ : Th))), .slice q.2.A q.2.L.length q.2.c] 30, ownB 175 2 q.2.A q.2.L.length q.2.c (q.2.L.flatMap eO), grpB (q.2.L.map rwB)]) ?_ ?_
 ·refine kJ [(0, _), (3, _), (4, _), (6, _)] ?_
  refine xDx [0, 1, 2, 3, 4, 5, 6, 7, 8, 9, 10, 11, 12, 13, 14] [] [3, 7, 13, 14] [cellB b [.int .i64 kf, .int .i64 kt, .int .i64 ks, .int .i64 ke, .bool kp, .bool true, .int .i64 fr, .slice sA l.length sk, .int .i64 tn, .pointer none] 217, cellB b3 [.int .i64 xteam, .int .i64 xnn, .bool xlate, .bool xshort, .int .i64 xhow, .slice A2 m.length cap2] 26] ?_
  refine s9 ?_
  refine dP rfl (rp_buildC (fun us => [us.getD 0 undef, us.getD 1 undef, us.getD 2 undef]) rfl rfl (fun w => by kernel_rfl)) ?_
  refine s5 ?_
  refine dPair (i := 15) (j := 16) (by kernel_rfl) ?_ ?_
  ·refine St1_mk rfl wAny (oR (fun w hw => (judge_any (⟨kf, kt, ks, ke, kp⟩ : Cd) tn (nextF (EnM.pl (⟨⟨kf, kt, ks, ke, kp⟩, fr, l, sA, sk, tn, none⟩ : EnM))).1 l m (⟨xteam, xnn, xlate, xshort, xhow⟩ : Th) _ A2 cap2 w (own_arr (A := sA) (c := sk) (L := l) ET hw (by repeat constructor) (by omega)) (hx w (hw.pick (Pk.nil _))) (thr_parts z3).1 (thr_parts z3).2.1 (thr_parts z3).2.2.1).mono (fun _ _ hh => by rw [← z1] at hh; exact hh))) (by first | exact trivial | exact ⟨by kernel_rfl, .inl (rfl : waitsB _ [] _ = true)⟩ | exact ⟨by kernel_rfl, .inr ⟨rfl, by repeat constructor⟩⟩) (fun t58 ht58 => ?_)
   dsimp only [ocI, List.cons_append, List.nil_append]
   refine dOA [16, 17] ?_
   refine dW rfl oA (fun b9 hb9 => ?_)
   refine s2 ?_
   exact xE (b9, t58) ht58
  ·refine St1_mk rfl wAny oA (by first | exact trivial | exact ⟨by kernel_rfl, .inl (rfl : waitsB _ [] _ = true)⟩ | exact ⟨by kernel_rfl, .inr ⟨rfl, by repeat constructor⟩⟩) (fun b9 hb9 => ?_)
   refine dOA [15, 17] ?_
   refine dW rfl (oR (fun w hw => (judge_any (⟨kf, kt, ks, ke, kp⟩ : Cd) tn (nextF (EnM.pl (⟨⟨kf, kt, ks, ke, kp⟩, fr, l, sA, sk, tn, none⟩ : EnM))).1 l m (⟨xteam, xnn, xlate, xshort, xhow⟩ : Th) _ A2 cap2 w (own_arr (A := sA) (c := sk) (L := l) ET hw (by repeat constructor) (by omega)) (hx w (hw.pick (Pk.nil _))) (thr_parts z3).1 (thr_parts z3).2.1 (thr_parts z3).2.2.1).mono (fun _ _ hh => by rw [← z1] at hh; exact hh))) (fun t58 ht58 => ?_)
   dsimp only [ocI, List.cons_append, List.nil_append]
   refine s2 ?_
   exact xE (b9, t58) ht58
 ·rintro ⟨b9, ⟨jA, jc, jL⟩⟩ ht58
  dsimp only at ht58 ⊢
  have hjl : jL.length ≤ 3 := by
   have h1 : jL.length = (outE (EnM.pl (⟨⟨kf, kt, ks, ke, kp⟩, fr, l, sA, sk, tn, none⟩ : EnM)) m (⟨xteam, xnn, xlate, xshort, xhow⟩ : Th)).length := by rw [← ht58.1, List.length_map]
   have h2 : (outE (EnM.pl (⟨⟨kf, kt, ks, ke, kp⟩, fr, l, sA, sk, tn, none⟩ : EnM)) m (⟨xteam, xnn, xlate, xshort, xhow⟩ : Th)).length ≤ 3 := outF_len _ _ _ _
   omega
  refine s7 ?_
  refine JL_dec (fun h62 => ?_) (fun h62 => ?_)
  ·refine s4 ?_
   obtain ⟨o, rfl⟩ := List.length_eq_one_iff.1 (show jL.length = 1 by omega)
   obtain ⟨⟨oA, on, ok, ol⟩, og⟩ := o
   obtain ⟨hon, hol⟩ := ht58.2 _ (List.mem_singleton.2 rfl)
   dsimp only at hon hol
   subst hon
   refine J_fact (fun hw => ?_)
   obtain ⟨g, rfl⟩ := own_some hw (ty := 175) (k := 2) (m := 1) (c := jc) (A := jA) (xs := [(⟨⟨oA, ol.length, ok, ol⟩, og⟩ : Oc)].flatMap eO) (by repeat constructor) (by omega)
   clear hw
   refine kJ [(0, _), (4, _), (9, _)] ?_
   refine s4 ?_
   refine aP (pIdxI (0) rfl rfl rfl rfl) ?_
   refine aV (vOwnA (cs := [.slice oA ol.length ok, .bool og]) EO (L := [(⟨⟨oA, ol.length, ok, ol⟩, og⟩ : Oc)]) (j := 0) rfl rfl (by repeat constructor) (Nat.le_of_ble_eq_true rfl) rfl) ?_
   refine aW (oL [cellB b [.int .i64 kf, .int .i64 kt, .int .i64 ks, .int .i64 ke, .bool kp, .bool true, .int .i64 fr, .slice sA l.length sk, .int .i64 tn, .pointer none] 217] [cellB b9 [.int .i64 (rulE (EnM.pl (⟨⟨kf, kt, ks, ke, kp⟩, fr, l, sA, sk, tn, none⟩ : EnM)) m (⟨xteam, xnn, xlate, xshort, xhow⟩ : Th)), .int .i64 (choF (⟨xteam, xnn, xlate, xshort, xhow⟩ : Th) (rulE (EnM.pl (⟨⟨kf, kt, ks, ke, kp⟩, fr, l, sA, sk, tn, none⟩ : EnM)) m (⟨xteam, xnn, xlate, xshort, xhow⟩ : Th))), .slice (some ⟨g, 0, none⟩) 1 jc] 30, ownB 175 2 (some ⟨g, 0, none⟩) 1 jc ([(⟨⟨oA, ol.length, ok, ol⟩, og⟩ : Oc)].flatMap eO), grpB ([(⟨⟨oA, ol.length, ok, ol⟩, og⟩ : Oc)].map rwB), cellB b4 [.int .i64 0, .int .i64 0, .slice none 0 0] 30] (fun w hw h0 => take_any b (⟨⟨kf, kt, ks, ke, kp⟩, fr, l, sA, sk, tn, none⟩ : EnM) oA ol ok og w h0.startL (fun W hW => oc_arr (p := ⟨⟨oA, ol.length, ok, ol⟩, og⟩) (hw.keepL (HA := [cellB b [.int .i64 kf, .int .i64 kt, .int .i64 ks, .int .i64 ke, .bool kp, .bool true, .int .i64 fr, .slice sA l.length sk, .int .i64 tn, .pointer none] 217]) (C := grpB ([(⟨⟨oA, ol.length, ok, ol⟩, og⟩ : Oc)].map rwB)) hW (by repeat constructor) rfl) (List.mem_singleton.2 rfl) rfl hol) hol (by dsimp only; omega))) (fun t68 _ => ?_)
   refine s3 ?_
   refine kJ [(4, _), (9, _)] ?_
   refine s8 ?_
   refine JR_two rfl (rr_agg (cs := [_, _, _]) rfl Agg.h (Siz.h (k := 3)) (by repeat constructor) (by rfl)) (rr_tmp rfl) ?_
   intro w' hw
   have ho := ht58.1
   exact ⟨(⟨⟨kf, kt, ks, ke, kp⟩, fr, ol, t68.1, t68.2, if og = true then tn else tn + 1, none⟩, ⟨some ⟨g, 0, none⟩, jc, [⟨⟨oA, ol.length, ok, ol⟩, og⟩]⟩), ⟨⟨by rw [thr_one (E := EnM.pl (⟨⟨kf, kt, ks, ke, kp⟩, fr, l, sA, sk, tn, none⟩ : EnM)) (m := m) (x := (⟨xteam, xnn, xlate, xshort, xhow⟩ : Th)) ho.symm]; rfl, fun m hm => by cases hm⟩, ht58⟩, rfl, hw.close (HA := endI b ⟨⟨kf, kt, ks, ke, kp⟩, fr, ol, t68.1, t68.2, if og = true then tn else tn + 1, none⟩) (H1 := ocI ⟨some ⟨g, 0, none⟩, jc, [⟨⟨oA, ol.length, ok, ol⟩, og⟩]⟩) (by repeat constructor) rfl⟩
  ·refine s6 ?_
   refine kJ [(0, _), (4, _), (9, _)] ?_
   refine s2 ?_
   refine aW (oR (fun w hw => (copied_any (rulE (EnM.pl (⟨⟨kf, kt, ks, ke, kp⟩, fr, l, sA, sk, tn, none⟩ : EnM)) m (⟨xteam, xnn, xlate, xshort, xhow⟩ : Th)) (choF (⟨xteam, xnn, xlate, xshort, xhow⟩ : Th) (rulE (EnM.pl (⟨⟨kf, kt, ks, ke, kp⟩, fr, l, sA, sk, tn, none⟩ : EnM)) m (⟨xteam, xnn, xlate, xshort, xhow⟩ : Th))) jL jA jc w (own_arr (A := jA) (c := jc) (L := jL) EO hw (by repeat constructor) (by omega)) (fun p hp => ⟨by unfold OcW Dv.v; rw [(ht58.2 p hp).1]; exact oc_arr (hw.ok (grpB (jL.map rwB)) (by repeat constructor)).1 hp (ht58.2 p hp).1 (ht58.2 p hp).2, (ht58.2 p hp).2⟩) (by omega)))) (fun t71 ht71 => ?_)
   refine aW oA (fun b10 hb10 => ?_)
   refine s12 ?_
   refine kJ [(4, _), (9, _)] ?_
   refine s7 ?_
   refine JR_two rfl (rr_agg (cs := [_, _, _]) rfl Agg.h (Siz.h (k := 3)) (by repeat constructor) (by rfl)) (rr_tmp rfl) ?_
   intro w' hw
   have ho : jL.map oP = outE (EnM.pl (⟨⟨kf, kt, ks, ke, kp⟩, fr, l, sA, sk, tn, none⟩ : EnM)) m (⟨xteam, xnn, xlate, xshort, xhow⟩ : Th) := ht58.1
   have hne : (outE (EnM.pl (⟨⟨kf, kt, ks, ke, kp⟩, fr, l, sA, sk, tn, none⟩ : EnM)) m (⟨xteam, xnn, xlate, xshort, xhow⟩ : Th)).length ≠ 1 := fun h => h62 (by rw [← ho, List.length_map] at h; omega)
   exact ⟨(⟨⟨kf, kt, ks, ke, kp⟩, fr, l, sA, sk, tn, some ⟨b10, (rulE (EnM.pl (⟨⟨kf, kt, ks, ke, kp⟩, fr, l, sA, sk, tn, none⟩ : EnM)) m (⟨xteam, xnn, xlate, xshort, xhow⟩ : Th)), choF (⟨xteam, xnn, xlate, xshort, xhow⟩ : Th) (rulE (EnM.pl (⟨⟨kf, kt, ks, ke, kp⟩, fr, l, sA, sk, tn, none⟩ : EnM)) m (⟨xteam, xnn, xlate, xshort, xhow⟩ : Th)), t71⟩⟩, ⟨jA, jc, jL⟩), ⟨⟨by rw [thr_many hne]; show (⟨_, _, _, _, some (_, _, t71.L.map oP)⟩ : En) = _; rw [ht71.1, ho]; rfl, fun m hm => by cases hm; exact ht71.2⟩, ht58⟩, rfl, hw.close (HA := endI b ⟨⟨kf, kt, ks, ke, kp⟩, fr, l, sA, sk, tn, some ⟨b10, (rulE (EnM.pl (⟨⟨kf, kt, ks, ke, kp⟩, fr, l, sA, sk, tn, none⟩ : EnM)) m (⟨xteam, xnn, xlate, xshort, xhow⟩ : Th)), choF (⟨xteam, xnn, xlate, xshort, xhow⟩ : Th) (rulE (EnM.pl (⟨⟨kf, kt, ks, ke, kp⟩, fr, l, sA, sk, tn, none⟩ : EnM)) m (⟨xteam, xnn, xlate, xshort, xhow⟩ : Th)), t71⟩⟩) (H1 := ocI ⟨jA, jc, jL⟩) (by repeat constructor) rfl⟩
end Go.Proofs.YtmcpnoailbmkkaaGreatDoor
/- Layer 7: Choose; no end. -/
namespace Go.Proofs.YtmcpnoailbmkkaaGreatDoor
open Go Go.RowKit Go.Proofs
attribute [local irreducible] J JQ JL JA JD

/-- Why nothing may be chosen, or 0. -/
def chsE (E : En) (i : Int) : Int := match E.p with | none => 9 | some r => if 0 ≤ i ∧ i ≤ (r.2.2.length : Int) - 1 then 0 else 7
def chsN (E : En) (i : Int) : En := match E.p with | none => E | some r => tookE E (r.2.2.getD i.toNat ([], false))
set_option maxRecDepth 100000 in
set_option maxHeartbeats 4000000 in
theorem Choose_no (b : Nat) (e : EnM) (i : Int) (w : World) (h : EndW w b e) (hok : EnOk e.pl) (hq : chsE e.pl i ≠ 0) : Calls Tryz.prog 55 #[.pointer (some ⟨b, 0, none⟩), .int .i64 i] w (Back (.int .i64 (chsE e.pl i)) w) := by
 obtain ⟨⟨kf, kt, ks, ke, kp⟩, fr, l, sA, sk, tn, pd⟩ := e
 refine J_enter (fun _ => False) (vs := [.pointer (some ⟨b, 0, none⟩), .int .i64 i]) (k := 38) (l := [(0, .pointer (some ⟨b, 0, none⟩)), (1, .int .i64 i)]) Tryz.func55 rfl rfl Tryz.ntmps55 rfl rfl (Wd.start _) ?_
 refine s1 ?_
 rcases pd with _ | pm
 ·have hc : (cellB b [.int .i64 kf, .int .i64 kt, .int .i64 ks, .int .i64 ke, .bool kp, .bool true, .int .i64 fr, .slice sA l.length sk, .int .i64 tn, .pointer none] 217).holds w := h.cell

  refine s9 ?_
  refine aCB (fun w hw => is_any b kf kt ks ke kp true fr sA l.length sk tn _ w (It.up_cell hc hw.bel)) ?_
  refine aBoolT ?_ rfl
  refine s6 ?_
  refine kJ [(0, _), (1, _)] ?_
  refine s4 ?_
  refine aV (vOld rfl rfl (fun h => h) (cellB_get hc rfl)) ?_
  refine aP (pEqlP (by kernel_rfl) rfl rfl) ?_
  refine aBoolT ?_ rfl
  refine s5 ?_
  refine kJ [] ?_
  refine s7 ?_
  refine JR_one rfl (rr_tmp rfl) ?_
  intro w' hw
  exact ⟨rfl, hw.bel⟩
 ·have hc : (cellB b [.int .i64 kf, .int .i64 kt, .int .i64 ks, .int .i64 ke, .bool kp, .bool true, .int .i64 fr, .slice sA l.length sk, .int .i64 tn, .pointer (some ⟨pm.b, 0, none⟩)] 217).holds w := h.cell
  have hni : ¬ (0 ≤ i ∧ i ≤ ((pm.t.L.length : Nat) : Int) - 1) := fun h => hq (by unfold chsE EnM.pl; dsimp only [Option.map]; rw [List.length_map, if_pos h])
  have hlen := (hok.p (pm.r, pm.h, pm.t.L.map oP) rfl).2.1
  dsimp only at hlen
  rw [List.length_map] at hlen
  refine s9 ?_
  refine aCB (fun w hw => is_any b kf kt ks ke kp true fr sA l.length sk tn _ w (It.up_cell hc hw.bel)) ?_
  refine aBoolT ?_ rfl
  refine s6 ?_
  refine kJ [(0, _), (1, _)] ?_
  refine s4 ?_
  refine aV (vOld rfl rfl (fun h => h) (cellB_get hc rfl)) ?_
  refine aP (pEqlP (by kernel_rfl) rfl rfl) ?_
  refine aBoolF ?_ rfl
  refine s5 ?_
  refine kJ [(0, _), (1, _)] ?_
  refine s5 ?_
  refine aV (vOld rfl rfl (fun h => h) (cellB_get hc rfl)) ?_
  refine s2 ?_
  refine aV (vOld rfl rfl (fun h => h) (cellB_get (h.pd pm rfl).1 rfl)) ?_
  refine s2 ?_
  refine aCB (fun w hw => rwithin _ _ _ w) ?_
  refine aDecF ?_ hni
  refine s6 ?_
  refine kJ [] ?_
  refine s7 ?_
  refine JR_one rfl (rr_tmp rfl) ?_
  intro w' hw
  have e : chsE (EnM.pl (⟨⟨kf, kt, ks, ke, kp⟩, fr, l, sA, sk, tn, (some pm)⟩ : EnM)) i = 7 := by unfold chsE EnM.pl; dsimp only [Option.map]; rw [List.length_map, if_neg hni]
  exact ⟨by rw [e], hw.bel⟩
set_option maxRecDepth 100000 in
set_option maxHeartbeats 4000000 in
theorem Choose_yes (b : Nat) (e : EnM) (i : Int) (w : World) (h0 : Wd ⟨w, (allI [grpB (endI b e)]).foot, none, []⟩ [grpB (endI b e)] w) (hok : EnOk e.pl) (hn : ∀ m, e.p = some m → ∀ p ∈ m.t.L, p.d.n = p.d.l.length ∧ p.d.l.length ≤ 16) (hq : chsE e.pl i = 0) : Calls Tryz.prog 55 #[.pointer (some ⟨b, 0, none⟩), .int .i64 i] w (RetL [grpB (endI b e)] (fun t : EnM => EnP (chsN e.pl i) t) (fun _ => .int .i64 0) (fun t => [grpB (endI b t)]) w) := by
 obtain ⟨⟨kf, kt, ks, ke, kp⟩, fr, l, sA, sk, tn, pd⟩ := e
 rcases pd with _ | ⟨pb, pr, ph, ⟨jA, jc, jL⟩⟩
 ·cases hq
 have hlen := (hok.p (pr, ph, jL.map oP) rfl).2.1
 dsimp only at hlen
 rw [List.length_map] at hlen
 have hin : 0 ≤ i ∧ i ≤ ((jL.length : Nat) : Int) - 1 := by
  unfold chsE EnM.pl at hq
  dsimp only [Option.map] at hq
  rw [List.length_map] at hq
  split at hq
  ·assumption
  ·cases hq
 obtain ⟨k, rfl⟩ : ∃ k : Nat, i = k := ⟨i.toNat, by omega⟩
 have hk : k < jL.length := by omega
 obtain ⟨⟨⟨oA, on, ok, ol⟩, og⟩, hx⟩ : ∃ y, jL[k]'hk = y := ⟨_, rfl⟩
 obtain ⟨hon, hol⟩ := hn _ rfl (⟨⟨oA, on, ok, ol⟩, og⟩ : Oc) (by rw [← hx]; exact List.getElem_mem _)
 dsimp only at hon hol
 subst hon
 have hmx : (⟨⟨oA, ol.length, ok, ol⟩, og⟩ : Oc) ∈ jL := by rw [← hx]; exact List.getElem_mem _
 have htn := hok.tn
 have he := hok.e
 dsimp only [EnM.pl] at htn he
 obtain ⟨g, rfl⟩ : ∃ g, jA = some ⟨g, 0, none⟩ := own_some ⟨_, h0.opn (Pk.refl _)⟩ (ty := 175) (k := 2) (m := jL.length) (c := jc) (A := jA) (xs := jL.flatMap eO) (by repeat constructor) (by omega)
 refine J_start (B := ⟨w, (allI [grpB (endI b (⟨⟨kf, kt, ks, ke, kp⟩, fr, l, sA, sk, tn, (some ⟨pb, pr, ph, ⟨some ⟨g, 0, none⟩, jc, jL⟩⟩)⟩ : EnM))]).foot, none, []⟩) rfl rfl (vs := [.pointer (some ⟨b, 0, none⟩), .int .i64 (k : Nat)]) (k := 38) (l := [(0, .pointer (some ⟨b, 0, none⟩)), (1, .int .i64 (k : Nat))]) Tryz.func55 rfl rfl Tryz.ntmps55 rfl rfl ((show Wd ⟨w, (allI [grpB (endI b (⟨⟨kf, kt, ks, ke, kp⟩, fr, l, sA, sk, tn, (some ⟨pb, pr, ph, ⟨some ⟨g, 0, none⟩, jc, jL⟩⟩)⟩ : EnM))]).foot, none, []⟩ [cellB b [.int .i64 kf, .int .i64 kt, .int .i64 ks, .int .i64 ke, .bool kp, .bool true, .int .i64 fr, .slice sA l.length sk, .int .i64 tn, .pointer (some ⟨pb, 0, none⟩)] 217, ownB 43 4 sA l.length sk (l.flatMap eT), cellB pb [.int .i64 pr, .int .i64 ph, .slice (some ⟨g, 0, none⟩) jL.length jc] 30, ownB 175 2 (some ⟨g, 0, none⟩) jL.length jc (jL.flatMap eO), grpB (jL.map rwB)] w from h0.opn (Pk.refl _))) ?_
 refine s10 ?_
 refine aCB (fun w hw => is_any b kf kt ks ke kp true fr sA l.length sk tn _ w (hw.ok (cellB b [.int .i64 kf, .int .i64 kt, .int .i64 ks, .int .i64 ke, .bool kp, .bool true, .int .i64 fr, .slice sA l.length sk, .int .i64 tn, .pointer (some ⟨pb, 0, none⟩)] 217) (by repeat constructor)).1) ?_
 refine aBoolT ?_ rfl
 refine s6 ?_
 refine kJ [(0, _), (1, _)] ?_
 refine s5 ?_
 refine aP (pEqlP (by kernel_rfl) rfl rfl) ?_
 refine aBoolF ?_ rfl
 refine s5 ?_
 refine kJ [(0, _), (1, _)] ?_
 refine s11 ?_
 refine aCB (fun w hw => rwithin _ _ _ w) ?_
 refine aDecT ?_ (by omega)
 refine s9 ?_
 refine kJ [(0, _), (1, _)] ?_
 refine s10 ?_
 refine aP (pIdxI (k) rfl rfl rfl) ?_
 refine aV (vOwnA (cs := [.slice oA ol.length ok, .bool og]) EO (L := jL) (j := k) rfl rfl (by repeat constructor) hk (by rw [hx]; rfl)) ?_
 refine aW (oL [cellB b [.int .i64 kf, .int .i64 kt, .int .i64 ks, .int .i64 ke, .bool kp, .bool true, .int .i64 fr, .slice sA l.length sk, .int .i64 tn, .pointer (some ⟨pb, 0, none⟩)] 217] [ownB 175 2 (some ⟨g, 0, none⟩) jL.length jc (jL.flatMap eO), grpB (jL.map rwB)] (fun w hw h0 => take_any b (⟨⟨kf, kt, ks, ke, kp⟩, fr, l, sA, sk, tn, (some ⟨pb, pr, ph, ⟨some ⟨g, 0, none⟩, jc, jL⟩⟩)⟩ : EnM) oA ol ok og w h0.startL (fun W hW => oc_arr (p := ⟨⟨oA, ol.length, ok, ol⟩, og⟩) (hw.keepL (HA := [cellB b [.int .i64 kf, .int .i64 kt, .int .i64 ks, .int .i64 ke, .bool kp, .bool true, .int .i64 fr, .slice sA l.length sk, .int .i64 tn, .pointer (some ⟨pb, 0, none⟩)] 217]) (C := grpB (jL.map rwB)) hW (by repeat constructor) rfl) hmx rfl hol) hol (by dsimp only; omega))) (fun t39 _ => ?_)
 refine s3 ?_
 refine kJ [] ?_
 refine s5 ?_
 refine JR_one rfl (rr_tmp rfl) ?_
 intro w' hw
 exact ⟨⟨⟨kf, kt, ks, ke, kp⟩, fr, ol, t39.1, t39.2, if og = true then tn else tn + 1, none⟩, ⟨by unfold chsN; dsimp only [EnM.pl, Option.map]; rw [show ((k : Nat) : Int).toNat = k from Int.toNat_natCast k, List.getD_eq_getElem?_getD, List.getElem?_map, List.getElem?_eq_getElem hk, hx]; rfl, fun m hm => by cases hm⟩, rfl, hw.close (HA := endI b ⟨⟨kf, kt, ks, ke, kp⟩, fr, ol, t39.1, t39.2, if og = true then tn else tn + 1, none⟩) (H1 := []) (by repeat constructor) rfl⟩
end Go.Proofs.YtmcpnoailbmkkaaGreatDoor
/- Layer 2: the stones in the house. -/
namespace Go.Proofs.YtmcpnoailbmkkaaGreatDoor
open Go Go.RowKit Go.Proofs
attribute [local irreducible] J JQ JL JA JD

/-- Numbers that are not negative, as elements. -/
def eN (n : Nat) : List Value := [.int .i64 (n : Nat)]
theorem EN : Enc 1 eN := ⟨fun _ => rfl, fun x v h => by simp [eN] at h; subst h; rfl⟩
/-- The places, among the first k, of the stones in the house. -/
def hsN (l : List St) (k : Nat) : List Nat := (List.range k).filter (fun i => decide (InH (l.getD i ⟨0, 0, 0, 0⟩).x (l.getD i ⟨0, 0, 0, 0⟩).y))
theorem hsN_s {l : List St} {k : Nat} {x : St} (hk : k < l.length) (hx : l[k]'hk = x) : hsN l (k + 1) = if InH x.x x.y then hsN l k ++ [k] else hsN l k := by
 unfold hsN
 rw [List.range_succ, List.filter_append, List.filter_cons, List.filter_nil]
 have e : l.getD k ⟨0, 0, 0, 0⟩ = x := by rw [List.getD_eq_getElem?_getD, List.getElem?_eq_getElem hk, hx]; rfl
 rw [e]
 by_cases h : InH x.x x.y
 ·rw [if_pos h, decide_eq_true h, if_pos rfl]
 ·rw [if_neg h, decide_eq_false h, if_neg (by decide), List.append_nil]
theorem hsN_len (l : List St) (k : Nat) : (hsN l k).length ≤ k := Nat.le_trans (List.length_filter_le _ _) (by rw [List.length_range]; exact Nat.le_refl _)
theorem hsN_pre (l : List St) {k n : Nat} (h : k ≤ n) : hsN l k <+: hsN l n := by
 induction n with
 | zero => rw [Nat.le_zero.1 h]; exact List.prefix_refl _
 | succ n ih =>
  rcases Nat.lt_or_ge k (n + 1) with h1 | h1
  ·refine (ih (by omega)).trans ?_
   unfold hsN
   rw [List.range_succ, List.filter_append]
   exact List.prefix_append _ _
  ·obtain rfl : k = n + 1 := by omega
   exact List.prefix_refl _
/-- All of them. -/
def hsA (l : List St) : List Nat := hsN l l.length
theorem hsA_at {l : List St} {k : Nat} {x : St} (hk : k < l.length) (hx : l[k]'hk = x) (hi : InH x.x x.y) : (hsN l k).length < (hsA l).length ∧ (hsA l)[(hsN l k).length]? = some k := by
 have h1 := hsN_pre l (show k + 1 ≤ l.length by omega)
 rw [hsN_s hk hx, if_pos hi] at h1
 have h2 := h1.length_le
 rw [List.length_append] at h2
 have h3 : (hsN l k).length < (hsA l).length := Nat.lt_of_lt_of_le (Nat.lt_succ_self _) h2
 refine ⟨h3, ?_⟩
 obtain ⟨r, hr⟩ := h1
 unfold hsA
 rw [← hr, List.append_assoc, List.getElem?_append_right (Nat.le_refl _), Nat.sub_self]; rfl
theorem hs_mem {l : List St} {i k : Nat} (h : i ∈ hsN l k) : i < k ∧ InH (l.getD i ⟨0, 0, 0, 0⟩).x (l.getD i ⟨0, 0, 0, 0⟩).y := by
 unfold hsN at h
 rw [List.mem_filter, List.mem_range] at h
 exact ⟨h.1, of_decide_eq_true h.2⟩
/-- The state of a loop over them: how many were given; a row. -/
structure HsT where
 n : Nat
 A : Option Addr
 c : Nat
abbrev hsX (l : List St) (n : Nat) : List Nat := (hsA l).take n
set_option maxRecDepth 100000 in
set_option maxHeartbeats 4000000 in
theorem housed_any (A : Option Addr) (n cap : Nat) (w : World) : Calls Tryz.prog 114 #[.slice A n cap] w (Ret w (fun _ : Nat => True) (fun b => .func (.func 170) #[] #[.pointer (some ⟨b, 0, none⟩)]) (fun b => [cellB b [.slice A n cap] 24])) := by
 refine J_enter (fun _ => False) (vs := [.slice A n cap]) (k := 3) (l := [(0, .slice A n cap)]) Tryz.func114 rfl rfl Tryz.ntmps114 rfl rfl (Wd.start _) ?_
 refine s2 ?_
 refine aW (oX [_]) (fun b1 hb1 => ?_)
 refine s10 ?_
 refine JR_one rfl (rr_tmp rfl) ?_
 intro w' hw
 exact ⟨b1, trivial, rfl, hw.pick (by repeat constructor)⟩
set_option maxRecDepth 100000 in
set_option maxHeartbeats 4000000 in
theorem housed1_any (l : List St) (A : Option Addr) (cap bh b3 : Nat) (w0 : World) (E1 : It) (hrow : Arr 4 eT w0 (.slice A l.length cap) l) (hok : ∀ s ∈ l, OkS s.x s.y) : Itr2 Tryz.prog (T := HsT) (Y := Nat × St) 170 #[.pointer (some ⟨bh, 0, none⟩)] ⟨w0, fun _ => False, none, []⟩ (fun t => t.n ≤ (hsA l).length) (fun t X => [cellB bh [.slice A l.length cap] 24, E1, cellB b3 [.slice t.A (hsX l t.n).length t.c] 34, ownB 3 1 t.A (hsX l t.n).length t.c ((hsX l t.n).flatMap eN), X]) (fun t y => (hsA l)[t.n]? = some y.1 ∧ l[y.1]? = some y.2) (fun y => .int .i64 (y.1 : Nat)) (fun y => Stv y.2) (fun t _ X => [cellB bh [.slice A l.length cap] 24, E1, cellB b3 [.slice t.A (hsX l t.n).length t.c] 34, ownB 3 1 t.A (hsX l t.n).length t.c ((hsX l t.n).flatMap eN), X]) (fun t t' => t'.n = t.n + 1) (fun t => t.n = (hsA l).length) (fun t => t.n = 0) := by
 intro lp X t0 W h0 hn0 hW hY
 obtain ⟨A', cap', e0, -, ⟨hl, -⟩, hAl⟩ := hrow
 obtain ⟨rfl, -, rfl⟩ : A = A' ∧ True ∧ cap = cap' := by injection e0 with e1 _ e3; exact ⟨e1, trivial, e3⟩
 refine J_start (B := ⟨w0, fun _ => False, none, []⟩) rfl rfl (vs := [.func (.yield lp) #[] #[], .pointer (some ⟨bh, 0, none⟩)]) (k := 22) (l := [(0, .func (.yield lp) #[] #[]), (1, .pointer (some ⟨bh, 0, none⟩))]) Tryz.func170 rfl rfl Tryz.ntmps170 rfl rfl (hW) ?_
 refine s8 ?_
 refine xL (T := Nat × HsT) (fun q => q.1 ≤ l.length ∧ (hsN l q.1).length = q.2.n ∧ q.2.n ≤ (hsA l).length) (fun q => [(0, .func (.yield lp) #[] #[]), (5, .slice A l.length cap), (6, .int .i64 (l.length : Nat)), (7, .int .i64 (q.1 : Nat))]) (fun q => [cellB bh [.slice A l.length cap] 24, E1, cellB b3 [.slice q.2.A (hsX l q.2.n).length q.2.c] 34, ownB 3 1 q.2.A (hsX l q.2.n).length q.2.c ((hsX l q.2.n).flatMap eN), X]) (fun q => l.length - q.1) (0, t0) ⟨Nat.zero_le _, by rw [hn0]; rfl, h0⟩ ?_
 rintro q ⟨hq1, hq2, hq3⟩
 obtain ⟨k, hk⟩ : ∃ k, q.1 = k := ⟨_, rfl⟩
 rw [hk] at hq1 hq2 ⊢
 refine s3 ?_
 refine JL_dec (fun h8 => ?_) (fun h8 => ?_)
 ·refine s9 ?_
  have hltx : k < l.length := by omega
  obtain ⟨bx, qx, rfl, hh⟩ := hAl (by intro e; subst e; simp at hltx)
  obtain ⟨⟨xt, xn, xx, xy⟩, hx⟩ : ∃ y, l[k]'hltx = y := ⟨_, rfl⟩
  have hmx : (⟨xt, xn, xx, xy⟩ : St) ∈ l := by rw [← hx]; exact List.getElem_mem _
  refine s3 ?_
  refine aV (vHoldA (cs := [.int .i64 xt, .int .i64 xn, .int .i64 xx, .int .i64 xy]) ET rfl rfl (fun h => h) hh hltx (by rw [hx]; rfl)) ?_
  refine aW oA (fun b4 hb4 => ?_)
  refine s5 ?_
  by_cases hin : InH xx xy
  ·refine kJ [(0, _), (3, _), (4, _), (5, _), (6, _), (7, _)] ?_
   refine J_regI ?_
   refine iV (RP.rv pAny) ?_
   refine iV vAny ?_
   refine iC (ecF rfl rfl) (fun w hw => zone_any xx xy (hok _ hmx) w) ?_
   refine iV (RP.rv gBin) ?_
   refine iKT ((zone_house xx xy).2 hin) ?_
   refine iV (RP.rv (rp_move rfl rfl)) ?_
   refine iV (RP.rv (rp_move rfl rfl)) ?_
   refine iV (RP.rv (rp_move rfl rfl)) ?_
   refine iV vAny ?_
   refine iY2 (T := HsT) (φ := fun t' => t'.n = q.2.n + 1 ∧ t'.n ≤ (hsA l).length) (HH := fun t' => [cellB bh [.slice (some ⟨bx, qx, none⟩) l.length cap] 24, E1, cellB b3 [.slice t'.A (hsX l t'.n).length t'.c] 34, ownB 3 1 t'.A (hsX l t'.n).length t'.c ((hsX l t'.n).flatMap eN), X]) (fun W1 hW1 m => YieldAt.mono' (hY q.2 (k, (⟨xt, xn, xx, xy⟩ : St)) W1 hq3 ⟨by dsimp only; rw [← hq2]; exact (hsA_at hltx hx hin).2, by dsimp only; rw [List.getElem?_eq_getElem hltx, hx]⟩ (hW1.pick (by repeat constructor)) m) (fun e W2 h => ⟨h.1, h.2.imp fun t' h => ⟨⟨h.1, h.2.1⟩, h.2.2⟩⟩)) (fun t' ht' => ?_)
   obtain ⟨hRn, ht2⟩ := ht'
   refine iV (RP.rv (pNot rfl rfl)) ?_
   refine iV (RP.rv pAny) ?_
   refine iN ?_
   refine s5 ?_
   refine kJ [(0, _), (5, _), (6, _), (7, _)] ?_
   refine s4 ?_
   have hs := hsN_s hltx hx
   rw [if_pos hin] at hs
   exact xR (k + 1, t') ⟨by dsimp only; omega, by dsimp only; rw [hs, List.length_append, hRn, hq2]; rfl, ht2⟩ (by dsimp only; omega) (hl := ⟨rfl, rfl, rfl, (congrArg some (by go_num)), trivial⟩)
  ·refine kJ [(0, _), (3, _), (4, _), (5, _), (6, _), (7, _)] ?_
   refine s3 ?_
   refine aCB (fun w hw => zone_any xx xy (hok _ hmx) w) ?_
   refine s1 ?_
   refine aDecF ?_ (fun h => hin ((zone_house xx xy).1 h))
   refine s13 ?_
   refine kJ [(0, _), (5, _), (6, _), (7, _)] ?_
   refine s4 ?_
   have hs := hsN_s hltx hx
   rw [if_neg hin] at hs
   exact xR (k + 1, q.2) ⟨by dsimp only; omega, by dsimp only; rw [hs]; exact hq2, hq3⟩ (by dsimp only; omega) (hl := ⟨rfl, rfl, rfl, (congrArg some (by go_num)), trivial⟩)
 ·refine s8 ?_
  refine JR_end rfl ?_
  intro w' hw
  obtain rfl : k = l.length := by omega
  exact ⟨⟨_, rfl⟩, q.2, hq3, hq2.symm, hw.pick (by repeat constructor)⟩
end Go.Proofs.YtmcpnoailbmkkaaGreatDoor
/- Layer 2: the nearest stones. -/
namespace Go.Proofs.YtmcpnoailbmkkaaGreatDoor
open Go Go.RowKit Go.Proofs
attribute [local irreducible] J JQ JL JA JD

/-- The square of the distance of a stone by its place. -/
def sqAt (l : List St) (i : Nat) : Int := sqd (l.getD i ⟨0, 0, 0, 0⟩).x (l.getD i ⟨0, 0, 0, 0⟩).y
theorem sqAt_get {l : List St} {i : Nat} {x : St} (h : i < l.length) (hx : l[i]'h = x) : sqAt l i = sqd x.x x.y := by
 unfold sqAt; rw [List.getD_eq_getElem?_getD, List.getElem?_eq_getElem h, hx]; rfl
def cmp3 (a b : Int) : Int := if a < b then -1 else if b < a then 1 else 0
/-- Nearer, or as near and earlier. -/
def lx (key : Nat → Int) (a b : Nat) : Prop := key a < key b ∨ (key a = key b ∧ a < b)
theorem lx_trans {key : Nat → Int} {a b c : Nat} (h : lx key a b) (h' : lx key b c) : lx key a c := by unfold lx at *; omega
theorem swap_list {P R : List Nat} {p x : Nat} : ((P ++ p :: x :: R).set (P.length + 1) p).set P.length x = P ++ x :: p :: R := by
  rw [List.set_append_right _ _ (by omega)]
  have e : P.length + 1 - P.length = 1 := by omega
  rw [e]
  show (P ++ p :: p :: R).set P.length x = _
  rw [List.set_append_right _ _ (Nat.le_refl _), Nat.sub_self]
  rfl
theorem ins_sorted {key : Nat → Int} {P Q : List Nat} {x : Nat} (hS : (P ++ Q).Pairwise (lx key)) (hQ : ∀ y ∈ Q, key x < key y) (hP : ∀ p, P.getLast? = some p → lx key p x) : (P ++ x :: Q).Pairwise (lx key) := by
  rw [List.pairwise_append] at hS ⊢
  obtain ⟨h1, h2, h3⟩ := hS
  refine ⟨h1, List.pairwise_cons.2 ⟨fun y hy => .inl (hQ y hy), h2⟩, ?_⟩
  have hPx : ∀ a ∈ P, lx key a x := by
    intro a ha
    rcases List.eq_nil_or_concat P with rfl | ⟨P', p, rfl⟩
    · cases ha
    · have hp := hP p (by simp)
      rw [List.concat_eq_append, List.mem_append] at ha
      rcases ha with ha | ha
      · rw [List.concat_eq_append, List.pairwise_append] at h1
        exact lx_trans (h1.2.2 a ha p (by simp)) hp
      · rw [List.mem_singleton] at ha; subst ha; exact hp
  intro a ha b hb
  rcases List.mem_cons.1 hb with rfl | hb
  · exact hPx a ha
  · exact h3 a ha b hb


set_option maxRecDepth 100000 in
set_option maxHeartbeats 4000000 in
theorem near1_any (l : List St) (A : Option Addr) (cap b : Nat) (i k : Nat) (w : World) (hc : (cellB b [.slice A l.length cap] 24).holds w) (hrow : Arr 4 eT w (.slice A l.length cap) l) (hi : i < l.length) (hk : k < l.length) (hp : ∀ s ∈ l, Play s.x s.y) : Calls Tryz.prog 116 (#[] ++ #[.int .i64 (i : Nat), .int .i64 (k : Nat)] ++ #[.pointer (some ⟨b, 0, none⟩)]) w (Back (.int .i64 (cmp3 (sqAt l i) (sqAt l k))) w) := by
 obtain ⟨A', cap', e0, -, ⟨hl, -⟩, hAl⟩ := hrow
 obtain ⟨rfl, -, rfl⟩ : A = A' ∧ True ∧ cap = cap' := by injection e0 with e1 _ e3; exact ⟨e1, trivial, e3⟩
 obtain ⟨bx, qx, rfl, hh⟩ := hAl (by intro e; subst e; simp at hi)
 have hltx : i < l.length := hi
 obtain ⟨⟨xt, xn, xx, xy⟩, hx⟩ : ∃ y, l[i]'hltx = y := ⟨_, rfl⟩
 have hmx : (⟨xt, xn, xx, xy⟩ : St) ∈ l := by rw [← hx]; exact List.getElem_mem _
 have hlty : k < l.length := hk
 obtain ⟨⟨yt, yn, yx, yy⟩, hy⟩ : ∃ y, l[k]'hlty = y := ⟨_, rfl⟩
 have hmy : (⟨yt, yn, yx, yy⟩ : St) ∈ l := by rw [← hy]; exact List.getElem_mem _
 refine J_enter (fun _ => False) (vs := [.int .i64 (i : Nat), .int .i64 (k : Nat), .pointer (some ⟨b, 0, none⟩)]) (k := 25) (l := [(0, .int .i64 (i : Nat)), (1, .int .i64 (k : Nat)), (2, .pointer (some ⟨b, 0, none⟩))]) Tryz.func116 rfl rfl Tryz.ntmps116 rfl rfl (Wd.start _) ?_
 refine s6 ?_
 refine xD [0, 1, 2, 3, 4, 6, 7, 8, 9, 10, 5, 11, 12, 13] [0, 4, 6, 10] ?_
 refine dL rfl (vOld rfl rfl (fun h => h) (cellB_get hc rfl)) ?_
 refine s1 ?_
 refine dP rfl (pIdxI (i) rfl rfl rfl) ?_
 refine s1 ?_
 refine dL rfl (vHoldP (i := 2) (m := 2) (cs := [.int .i64 xx, .int .i64 xy]) rfl rfl (fun h => h) hh hltx rfl (by omega) (by rw [hx]; rfl)) ?_
 refine dL rfl (vOld rfl rfl (fun h => h) (cellB_get hc rfl)) ?_
 refine s1 ?_
 refine dP rfl (pIdxI (k) rfl rfl rfl) ?_
 refine s1 ?_
 refine dL rfl (vHoldP (i := 2) (m := 2) (cs := [.int .i64 yx, .int .i64 yy]) rfl rfl (fun h => h) hh hlty rfl (by omega) (by rw [hy]; rfl)) ?_
 refine dCB rfl (fun w hw => square_any xx xy (play_bound (hp _ hmx)) w) ?_
 refine dCB rfl (fun w hw => square_any yx yy (play_bound (hp _ hmy)) w) ?_
 refine s7 ?_
 refine kJ [(6, _), (7, _)] ?_
 refine s4 ?_
 refine JL_dec (fun h23 => ?_) (fun h23 => ?_)
 ·refine s5 ?_
  refine kJ [] ?_
  refine s7 ?_
  refine JR_one rfl (rr_tmp rfl) ?_
  intro w' hw
  exact ⟨by rw [sqAt_get hltx hx, sqAt_get hlty hy]; unfold cmp3; rw [if_pos h23], hw.bel⟩
 ·refine s5 ?_
  refine kJ [(6, _), (7, _)] ?_
  refine s4 ?_
  refine JL_dec (fun h27 => ?_) (fun h27 => ?_)
  ·refine s5 ?_
   refine kJ [] ?_
   refine s7 ?_
   refine JR_one rfl (rr_tmp rfl) ?_
   intro w' hw
   exact ⟨by rw [sqAt_get hltx hx, sqAt_get hlty hy]; unfold cmp3; rw [if_neg h23, if_pos h27], hw.bel⟩
  ·refine s8 ?_
   refine kJ [] ?_
   refine s5 ?_
   refine JR_one rfl (rr_tmp rfl) ?_
   intro w' hw
   exact ⟨by rw [sqAt_get hltx hx, sqAt_get hlty hy]; unfold cmp3; rw [if_neg h23, if_neg h27], hw.bel⟩
set_option maxRecDepth 100000 in
set_option maxHeartbeats 4000000 in
theorem insertion_any (f : FuncId) (caps : Array Value) (key : Nat → Int) (d : List Nat) (g c : Nat) (w : World) [hf : Cf Tryz.prog f] (hA : (ownB 3 1 (some ⟨g, 0, none⟩) d.length c ((d).flatMap eN)).holds w) (hAf : ∀ b, (ownB 3 1 (some ⟨g, 0, none⟩) d.length c ((d).flatMap eN)).foot b → b < w.heap.size) (hinc : d.Pairwise (· < ·)) (hd20 : d.length ≤ 20) (hcl : ∀ i k : Nat, i ∈ d → k ∈ d → ∀ W, Wd ⟨w, (ownB 3 1 (some ⟨g, 0, none⟩) d.length c ((d).flatMap eN)).foot, none, []⟩ [] W → Calls Tryz.prog f (#[] ++ #[.int .i64 (i : Nat), .int .i64 (k : Nat)] ++ caps) W (Back (.int .i64 (cmp3 (key i) (key k))) W)) : Calls Tryz.prog 198 #[.slice (some ⟨g, 0, none⟩) d.length c, .int .i64 0, .int .i64 (d.length : Nat), .func (.func f) #[] caps] w (RetM (ownB 3 1 (some ⟨g, 0, none⟩) d.length c ((d).flatMap eN)) (fun d' : List Nat => d'.Perm d ∧ d'.Pairwise (lx key)) (fun _ => .tuple #[]) (fun d' => ownB 3 1 (some ⟨g, 0, none⟩) d'.length c ((d').flatMap eN)) w) := by
 refine J_start (B := ⟨w, (ownB 3 1 (some ⟨g, 0, none⟩) d.length c ((d).flatMap eN)).foot, none, []⟩) rfl rfl (vs := [.slice (some ⟨g, 0, none⟩) d.length c, .int .i64 0, .int .i64 (d.length : Nat), .func (.func f) #[] caps]) (k := 49) (l := [(0, .slice (some ⟨g, 0, none⟩) d.length c), (1, .int .i64 0), (2, .int .i64 (d.length : Nat)), (3, .func (.func f) #[] caps)]) Tryz.func198 rfl rfl Tryz.ntmps198 rfl rfl (Wd.startM hA hAf) ?_
 refine s8 ?_
 refine xL (T := Nat × List Nat) (fun q => 1 ≤ q.1 ∧ (q.1 ≤ d.length ∨ d.length = 0) ∧ q.2.Perm (d.take q.1) ∧ q.2.Pairwise (lx key)) (fun q => [(0, .slice (some ⟨g, 0, none⟩) d.length c), (1, .int .i64 0), (2, .int .i64 (d.length : Nat)), (3, .func (.func f) #[] caps), (8, .int .i64 (q.1 : Nat))]) (fun q => [ownB 3 1 (some ⟨g, 0, none⟩) d.length c ((q.2 ++ d.drop q.1).flatMap eN)]) (fun q => d.length - q.1) (1, d.take 1) ⟨Nat.le_refl _, by dsimp only; omega, List.Perm.refl _, by dsimp only; cases d with | nil => simp | cons a d => simp⟩ ?_ (hl := ⟨rfl, rfl, rfl, rfl, (congrArg some (by go_num)), trivial⟩) (hH := by (try dsimp only); rw [List.take_append_drop]; repeat constructor)
 rintro ⟨i, S⟩ ⟨hi1, hi2, hS1, hS2⟩
 dsimp only at hi1 hi2 hS1 hS2 ⊢
 refine s6 ?_
 refine JL_dec (fun h14 => ?_) (fun h14 => ?_)
 ·refine s8 ?_
  have hltx : i < d.length := by omega
  obtain ⟨x, hx⟩ : ∃ x, d[i]'hltx = x := ⟨_, rfl⟩
  obtain ⟨T, hT⟩ : ∃ T, d.drop (i + 1) = T := ⟨_, rfl⟩
  have hdr : d.drop i = x :: T := by rw [List.drop_eq_getElem_cons hltx, hx, hT]
  have hlen : S.length = i := by rw [hS1.length_eq, List.length_take]; omega
  have hxm : x ∈ d := by rw [← hx]; exact List.getElem_mem _
  have hgt : ∀ y ∈ S, y < x ∧ y ∈ d := fun y hy => by
   have hy2 := hS1.mem_iff.1 hy
   refine ⟨?_, List.mem_of_mem_take hy2⟩
   have h := hinc
   rw [← List.take_append_drop i d, List.pairwise_append] at h
   exact h.2.2 y hy2 x (by rw [hdr]; simp)
  have hdl : d.length = i + 1 + T.length := by rw [← hT, List.length_drop]; omega
  refine s6 ?_
  refine xL (T := List Nat × List Nat) (fun q => q.1 ++ q.2 = S ∧ ∀ y ∈ q.2, key x < key y) (fun q => [(0, .slice (some ⟨g, 0, none⟩) d.length c), (1, .int .i64 0), (2, .int .i64 (d.length : Nat)), (3, .func (.func f) #[] caps), (8, .int .i64 (i : Nat)), (9, .int .i64 (q.1.length : Nat))]) (fun q => [ownB 3 1 (some ⟨g, 0, none⟩) d.length c ((q.1 ++ x :: (q.2 ++ T)).flatMap eN)]) (fun q => q.1.length) (S, []) ⟨List.append_nil _, fun y hy => by cases hy⟩ ?_ (hl := ⟨rfl, rfl, rfl, rfl, rfl, (by dsimp only; rw [hlen]; rfl), trivial⟩) (hH := by (try dsimp only); rw [List.nil_append, ← hdr]; repeat constructor)
  rintro ⟨P, Q⟩ ⟨hPQ, hQ⟩
  dsimp only at hPQ hQ ⊢
  refine s2 ?_
  have fin : (∀ y, P.getLast? = some y → lx key y x) → (P ++ x :: Q).Perm (d.take (i + 1)) ∧ (P ++ x :: Q).Pairwise (lx key) := fun h => by
   refine ⟨?_, ins_sorted (by rw [hPQ]; exact hS2) hQ h⟩
   rw [List.take_succ_eq_append_getElem hltx, hx]
   refine List.perm_middle.trans ?_
   rw [hPQ]
   exact (hS1.cons x).trans (List.perm_append_singleton _ _).symm
  have hPl : P.length + Q.length = i := by rw [← hlen, ← hPQ, List.length_append]
  rcases List.eq_nil_or_concat P with rfl | ⟨P', p, rfl⟩
  ·obtain ⟨fin1, fin2⟩ := fin (fun y hy => by cases hy)
   refine xD [0, 1, 2, 3, 4, 5, 6, 7, 8, 9, 10, 11, 12, 13, 14, 15, 16] [8, 13] ?_
   refine s3 ?_
   refine dDecF ?_ (by simp)
   refine s23 ?_
   refine kJ [(0, _), (1, _), (2, _), (3, _), (8, _)] ?_
   refine s5 ?_
   exact xR (i + 1, [] ++ x :: Q) ⟨by dsimp only; omega, by dsimp only; omega, fin1, fin2⟩ (by dsimp only; omega) (hl := ⟨rfl, rfl, rfl, rfl, (congrArg some (by go_num)), trivial⟩) (hH := by (try dsimp only); rw [show ([] ++ x :: Q) ++ d.drop (i + 1) = [] ++ x :: (Q ++ T) by rw [hT]; simp]; repeat constructor)
  ·rw [List.concat_eq_append] at *
   have hl2 : (P' ++ [p]).length = P'.length + 1 := by simp
   have e1 : P' ++ [p] ++ x :: (Q ++ T) = (P' ++ p :: x :: (Q ++ T)) := by simp
   have hML : (P' ++ p :: x :: (Q ++ T)).length = d.length := by simp; rw [hl2] at hPl; omega
   have hj0 : P'.length < (P' ++ p :: x :: (Q ++ T)).length := by simp
   have hj1 : P'.length + 1 < (P' ++ p :: x :: (Q ++ T)).length := by simp
   have g0 : (P' ++ p :: x :: (Q ++ T))[P'.length]'hj0 = p := by rw [List.getElem_append_right (by omega)]; simp
   have g1 : (P' ++ p :: x :: (Q ++ T))[P'.length + 1]'hj1 = x := by rw [List.getElem_append_right (by omega)]; simp
   have hsw : ((P' ++ p :: x :: (Q ++ T)).set (P'.length + 1) p).set P'.length x = P' ++ x :: (p :: Q ++ T) := swap_list
   have hpS := hgt p (by rw [← hPQ]; simp)
   rw [e1, hl2]
   refine xD [0, 1, 2, 3, 4, 5, 6, 7, 8, 9, 10, 11, 12, 13, 14, 15] [8, 13] ?_
   refine s3 ?_
   refine dDecT ?_ (by omega)
   refine s4 ?_
   refine dP rfl (pIdxI (P'.length + 1) rfl rfl rfl (by go_num)) ?_
   refine dL rfl (vOwn EN rfl rfl (by repeat constructor) hj1 (by omega) (by rw [g1]; rfl)) ?_
   refine s3 ?_
   refine dP rfl (pIdxI (P'.length) rfl rfl rfl (by go_num)) ?_
   refine dL rfl (vOwn EN rfl rfl (by repeat constructor) hj0 (by omega) (by rw [g0]; rfl)) ?_
   refine dW rfl (ow_callB (ec_val rfl rfl rfl Cf.h) rfl rfl (fun w hw => hcl x p hxm hpS.2 w (hw.pick (Pk.nil _)))) (fun _ _ => ?_)
   refine s1 ?_
   refine dDec (fun h33 => ?_) (fun h33 => ?_)
   ·have hkey : key x < key p := by
     unfold cmp3 at h33
     split at h33
     ·assumption
     ·split at h33 <;> omega
    refine dO [16] ?_
    refine s8 ?_
    refine kJ [(0, _), (1, _), (2, _), (3, _), (8, _), (9, _)] ?_
    refine xD [0, 1, 2, 3, 4, 5, 6, 7, 8, 9, 10, 11, 12, 13, 14, 15, 16, 17] [9, 13] ?_
    refine s8 ?_
    refine dP rfl (pIdxI (P'.length) rfl rfl rfl (by go_num)) ?_
    refine dL rfl (vOwn EN rfl rfl (by repeat constructor) hj0 (by omega) (by rw [g0]; rfl)) ?_
    refine s2 ?_
    refine dP rfl (pIdxI (P'.length + 1) rfl rfl rfl (by go_num)) ?_
    refine dL rfl (vOwn EN rfl rfl (by repeat constructor) hj1 (by omega) (by rw [g1]; rfl)) ?_
    refine dP rfl (pIdxI (P'.length + 1) rfl rfl rfl (by go_num)) ?_
    refine dW0 rfl (oStE EN [_] p (show P'.length + 1 < (P' ++ p :: x :: (Q ++ T)).length from hj1) (hi := Nat.le_refl _) (hr := rfl)) ?_
    refine dP rfl (pIdxI (P'.length) rfl rfl rfl (by go_num)) ?_
    refine dW0 rfl (oStE EN [_] x (show P'.length < ((P' ++ p :: x :: (Q ++ T)).set (P'.length + 1) p).length by rw [List.length_set]; exact hj0) (hi := Nat.le_refl _) (hr := rfl)) ?_
    refine s3 ?_
    refine kJ [(0, _), (1, _), (2, _), (3, _), (8, _), (9, _)] ?_
    refine s5 ?_
    refine xR (P', p :: Q) ⟨by dsimp only; rw [← hPQ, List.append_assoc]; rfl, fun y hy => (List.mem_cons.1 hy).elim (fun h => h ▸ hkey) (hQ y)⟩ (by dsimp only; omega) (hl := ⟨rfl, rfl, rfl, rfl, rfl, (congrArg (fun z => some (Value.int .i64 z)) (by dsimp only; omega)), trivial⟩) (hH := by dsimp only; rw [hsw]; repeat constructor)
   ·obtain ⟨fin1, fin2⟩ := fin (fun y hy => by
     have e : p = y := by simpa using hy
     subst e
     unfold lx
     unfold cmp3 at h33
     split at h33
     ·omega
     ·have := hpS.1; omega)
    refine dO [16] ?_
    refine s10 ?_
    refine kJ [(0, _), (1, _), (2, _), (3, _), (8, _)] ?_
    refine s5 ?_
    exact xR (i + 1, (P' ++ [p]) ++ x :: Q) ⟨by dsimp only; omega, by dsimp only; omega, fin1, fin2⟩ (by dsimp only; omega) (hl := ⟨rfl, rfl, rfl, rfl, (congrArg some (by go_num)), trivial⟩) (hH := by (try dsimp only); rw [show ((P' ++ [p]) ++ x :: Q) ++ d.drop (i + 1) = (P' ++ p :: x :: (Q ++ T)) by rw [hT]; simp]; repeat constructor)
 ·refine s7 ?_
  refine JR_end rfl ?_
  intro w' hw
  have hil : d.length ≤ i := by omega
  have e1 : d.take i = d := List.take_of_length_le hil
  have e2 : d.drop i = [] := List.drop_of_length_le hil
  rw [e1] at hS1
  rw [e2, List.append_nil, ← hS1.length_eq] at hw
  exact ⟨S, ⟨hS1, hS2⟩, rfl, hw.pick (by repeat constructor)⟩
end Go.Proofs.YtmcpnoailbmkkaaGreatDoor
/- Layer 2: the nearest stones, sorted. -/
namespace Go.Proofs.YtmcpnoailbmkkaaGreatDoor
open Go Go.RowKit Go.Proofs
attribute [local irreducible] J JQ JL JA JD

instance : Cf Tryz.prog 171 := ⟨fun _ _ => by kernel_rfl⟩
/-- What a call may have turned, a call of its callee's may have. -/
theorem Wd.nilM {B : Bs} {H : List It} {A : It} {w0 w : World} (hw : Wd B H w0) (hA : A ∈ H) (hr : A.ro = false) (hW : Wd ⟨w0, A.foot, none, []⟩ [] w) : Wd B [] w := by
 refine ⟨hW.os.trans hw.os, hW.tape.trans hw.tape, hW.output.trans hw.output, Nat.le_trans hw.size hW.size, fun b h1 h2 => (hW.block b (Nat.lt_of_lt_of_le h1 hw.size) (fun hf => ?_)).trans (hw.block b h1 h2), fun _ h => (by cases h), List.Pairwise.nil⟩
 rcases ((hw.ok A hA).2 b hf).1 with h | h | h
 ·rw [hr] at h; cases h
 ·exact h2 h
 ·omega
set_option maxRecDepth 100000 in
set_option maxHeartbeats 4000000 in
theorem stable_any (f : FuncId) (caps : Array Value) (key : Nat → Int) (d : List Nat) (g c : Nat) (w : World) [hf : Cf Tryz.prog f] (hA : (ownB 3 1 (some ⟨g, 0, none⟩) d.length c ((d).flatMap eN)).holds w) (hAf : ∀ b, (ownB 3 1 (some ⟨g, 0, none⟩) d.length c ((d).flatMap eN)).foot b → b < w.heap.size) (hinc : d.Pairwise (· < ·)) (hd20 : d.length ≤ 19) (hcl : ∀ i k : Nat, i ∈ d → k ∈ d → ∀ W, Wd ⟨w, (ownB 3 1 (some ⟨g, 0, none⟩) d.length c ((d).flatMap eN)).foot, none, []⟩ [] W → Calls Tryz.prog f (#[] ++ #[.int .i64 (i : Nat), .int .i64 (k : Nat)] ++ caps) W (Back (.int .i64 (cmp3 (key i) (key k))) W)) : Calls Tryz.prog 171 #[.slice (some ⟨g, 0, none⟩) d.length c, .int .i64 (d.length : Nat), .func (.func f) #[] caps] w (RetM (ownB 3 1 (some ⟨g, 0, none⟩) d.length c ((d).flatMap eN)) (fun d' : List Nat => d'.Perm d ∧ d'.Pairwise (lx key)) (fun _ => .tuple #[]) (fun d' => ownB 3 1 (some ⟨g, 0, none⟩) d'.length c ((d').flatMap eN)) w) := by
 refine J_start (B := ⟨w, (ownB 3 1 (some ⟨g, 0, none⟩) d.length c ((d).flatMap eN)).foot, none, []⟩) rfl rfl (vs := [.slice (some ⟨g, 0, none⟩) d.length c, .int .i64 (d.length : Nat), .func (.func f) #[] caps]) (k := 60) (l := [(0, .slice (some ⟨g, 0, none⟩) d.length c), (1, .int .i64 (d.length : Nat)), (2, .func (.func f) #[] caps)]) Tryz.func171 rfl rfl Tryz.ntmps171 rfl rfl (Wd.startM hA hAf) ?_
 refine s14 ?_
 refine xL (T := Unit) (fun _q => True) (fun _q => [(0, .slice (some ⟨g, 0, none⟩) d.length c), (1, .int .i64 (d.length : Nat)), (2, .func (.func f) #[] caps), (6, .int .i64 20), (7, .int .i64 0), (8, .int .i64 20)]) (fun _q => [ownB 3 1 (some ⟨g, 0, none⟩) d.length c ((d).flatMap eN)]) (fun _q => 0) () trivial ?_
 rintro _ -
 refine s6 ?_
 refine aDecF ?_ (by omega)
 refine s9 ?_
 refine kJ [(0, _), (1, _), (2, _), (6, _), (7, _)] ?_
 refine s5 ?_
 refine aW (oM (fun w hw => insertion_any f caps key d g c w (hw.ok (ownB 3 1 (some ⟨g, 0, none⟩) d.length c ((d).flatMap eN)) (by repeat constructor)).1 (fun b hb => ((hw.ok (ownB 3 1 (some ⟨g, 0, none⟩) d.length c ((d).flatMap eN)) (by repeat constructor)).2 b hb).2) hinc (by omega) (fun i k hi hk W hW => hcl i k hi hk W (hw.nilM (A := ownB 3 1 (some ⟨g, 0, none⟩) d.length c ((d).flatMap eN)) (by repeat constructor) rfl hW)))) (fun dd hdd => ?_)
 refine s3 ?_
 refine xL (T := Unit) (fun _q => True) (fun _q => [(0, .slice (some ⟨g, 0, none⟩) d.length c), (1, .int .i64 (d.length : Nat)), (2, .func (.func f) #[] caps), (6, .int .i64 20)]) (fun _q => [ownB 3 1 (some ⟨g, 0, none⟩) dd.length c (dd.flatMap eN)]) (fun _q => 0) () trivial ?_
 rintro _ -
 refine s6 ?_
 refine aDecF ?_ (by omega)
 refine s7 ?_
 refine JR_end rfl ?_
 intro w' hw
 exact ⟨dd, hdd, rfl, hw.pick (by repeat constructor)⟩
set_option maxRecDepth 100000 in
set_option maxHeartbeats 4000000 in
theorem sortStable_any (f : FuncId) (caps : Array Value) (key : Nat → Int) (d : List Nat) (g c : Nat) (w : World) [hf : Cf Tryz.prog f] (hA : (ownB 3 1 (some ⟨g, 0, none⟩) d.length c ((d).flatMap eN)).holds w) (hAf : ∀ b, (ownB 3 1 (some ⟨g, 0, none⟩) d.length c ((d).flatMap eN)).foot b → b < w.heap.size) (hinc : d.Pairwise (· < ·)) (hd20 : d.length ≤ 19) (hcl : ∀ i k : Nat, i ∈ d → k ∈ d → ∀ W, Wd ⟨w, (ownB 3 1 (some ⟨g, 0, none⟩) d.length c ((d).flatMap eN)).foot, none, []⟩ [] W → Calls Tryz.prog f (#[] ++ #[.int .i64 (i : Nat), .int .i64 (k : Nat)] ++ caps) W (Back (.int .i64 (cmp3 (key i) (key k))) W)) : Calls Tryz.prog 115 #[.slice (some ⟨g, 0, none⟩) d.length c, .func (.func f) #[] caps] w (RetM (ownB 3 1 (some ⟨g, 0, none⟩) d.length c ((d).flatMap eN)) (fun d' : List Nat => d'.Perm d ∧ d'.Pairwise (lx key)) (fun _ => .tuple #[]) (fun d' => ownB 3 1 (some ⟨g, 0, none⟩) d'.length c ((d').flatMap eN)) w) := by
 refine J_start (B := ⟨w, (ownB 3 1 (some ⟨g, 0, none⟩) d.length c ((d).flatMap eN)).foot, none, []⟩) rfl rfl (vs := [.slice (some ⟨g, 0, none⟩) d.length c, .func (.func f) #[] caps]) (k := 7) (l := [(0, .slice (some ⟨g, 0, none⟩) d.length c), (1, .func (.func f) #[] caps)]) Tryz.func115 rfl rfl Tryz.ntmps115 rfl rfl (Wd.startM hA hAf) ?_
 refine s5 ?_
 refine aW (oM (fun w hw => stable_any f caps key d g c w (hw.ok (ownB 3 1 (some ⟨g, 0, none⟩) d.length c ((d).flatMap eN)) (by repeat constructor)).1 (fun b hb => ((hw.ok (ownB 3 1 (some ⟨g, 0, none⟩) d.length c ((d).flatMap eN)) (by repeat constructor)).2 b hb).2) hinc hd20 (fun i k hi hk W hW => hcl i k hi hk W (hw.nilM (A := ownB 3 1 (some ⟨g, 0, none⟩) d.length c ((d).flatMap eN)) (by repeat constructor) rfl hW)))) (fun dd hdd => ?_)
 refine s1 ?_
 refine JR_end rfl ?_
 intro w' hw
 exact ⟨dd, hdd, rfl, hw.pick (by repeat constructor)⟩
set_option maxRecDepth 100000 in
set_option maxHeartbeats 4000000 in
theorem insertion_nil (fv : Value) (w : World) : Calls Tryz.prog 198 #[.slice none 0 0, .int .i64 0, .int .i64 0, fv] w (Back (.tuple #[]) w) := by
 refine J_enter (fun _ => False) (vs := [.slice none 0 0, .int .i64 0, .int .i64 0, fv]) (k := 49) (l := [(0, .slice none 0 0), (1, .int .i64 0), (2, .int .i64 0), (3, fv)]) Tryz.func198 rfl rfl Tryz.ntmps198 rfl rfl (Wd.start _) ?_
 refine s8 ?_
 refine xL (T := Unit) (fun _q => True) (fun _q => [(0, .slice none 0 0), (1, .int .i64 0), (2, .int .i64 0), (3, fv), (8, .int .i64 1)]) (fun _q => []) (fun _q => 0) () trivial ?_
 rintro _ -
 refine s6 ?_
 refine aDecF ?_ (by decide)
 refine s7 ?_
 refine JR_end rfl ?_
 intro w' hw
 exact ⟨rfl, hw.bel⟩
set_option maxRecDepth 100000 in
set_option maxHeartbeats 4000000 in
theorem stable_nil (fv : Value) (w : World) : Calls Tryz.prog 171 #[.slice none 0 0, .int .i64 0, fv] w (Back (.tuple #[]) w) := by
 refine J_enter (fun _ => False) (vs := [.slice none 0 0, .int .i64 0, fv]) (k := 60) (l := [(0, .slice none 0 0), (1, .int .i64 0), (2, fv)]) Tryz.func171 rfl rfl Tryz.ntmps171 rfl rfl (Wd.start _) ?_
 refine s14 ?_
 refine xL (T := Unit) (fun _q => True) (fun _q => [(0, .slice none 0 0), (1, .int .i64 0), (2, fv), (6, .int .i64 20), (7, .int .i64 0), (8, .int .i64 20)]) (fun _q => []) (fun _q => 0) () trivial ?_
 rintro _ -
 refine s6 ?_
 refine aDecF ?_ (by decide)
 refine s9 ?_
 refine kJ [(0, _), (1, _), (2, _), (6, _), (7, _)] ?_
 refine s5 ?_
 refine aCB (fun w hw => insertion_nil fv w) ?_
 refine s3 ?_
 refine xL (T := Unit) (fun _q => True) (fun _q => [(0, .slice none 0 0), (1, .int .i64 0), (2, fv), (6, .int .i64 20)]) (fun _q => []) (fun _q => 0) () trivial ?_
 rintro _ -
 refine s6 ?_
 refine aDecF ?_ (by decide)
 refine s7 ?_
 refine JR_end rfl ?_
 intro w' hw
 exact ⟨rfl, hw.bel⟩
set_option maxRecDepth 100000 in
set_option maxHeartbeats 4000000 in
theorem sortStable_nil (fv : Value) (w : World) : Calls Tryz.prog 115 #[.slice none 0 0, fv] w (Back (.tuple #[]) w) := by
 refine J_enter (fun _ => False) (vs := [.slice none 0 0, fv]) (k := 7) (l := [(0, .slice none 0 0), (1, fv)]) Tryz.func115 rfl rfl Tryz.ntmps115 rfl rfl (Wd.start _) ?_
 refine s5 ?_
 refine aCB (fun w hw => stable_nil fv w) ?_
 refine s1 ?_
 refine JR_end rfl ?_
 intro w' hw
 exact ⟨rfl, hw.bel⟩
end Go.Proofs.YtmcpnoailbmkkaaGreatDoor
/- Layer 2: nearest. -/
namespace Go.Proofs.YtmcpnoailbmkkaaGreatDoor
open Go Go.RowKit Go.Proofs
attribute [local irreducible] J JQ JL JA JD

/-- The nearest stones: a list, as a row. -/
structure NrT where
 L : List Nat
 A : Option Addr
 c : Nat
/-- Those of a list's stones that are in the house, the nearest first. -/
def NrP (l : List St) (L : List Nat) : Prop := L.Perm (hsA l) ∧ L.Pairwise (lx (sqAt l))
theorem hsX_s {l : List St} {n k : Nat} (h : (hsA l)[n]? = some k) : hsX l (n + 1) = hsX l n ++ [k] := by
 obtain ⟨h1, h2⟩ := List.getElem?_eq_some_iff.1 h
 unfold hsX
 rw [List.take_succ_eq_append_getElem h1, h2]
theorem hsX_all (l : List St) : hsX l (hsA l).length = hsA l := List.take_length
theorem hsA_up (l : List St) : (hsA l).Pairwise (· < ·) := by
 unfold hsA hsN
 exact List.pairwise_lt_range.sublist List.filter_sublist
theorem hsA_mem {l : List St} {i : Nat} (h : i ∈ hsA l) : i < l.length := (hs_mem h).1
theorem hsX_len (l : List St) (n : Nat) : (hsX l n).length ≤ l.length := by
 unfold hsX
 exact Nat.le_trans (List.length_take_le' n (hsA l)) (hsN_len l l.length)
theorem own_cs {B : Bs} {H : List It} {ty k m c : Nat} {A : Option Addr} {xs : List Value} (hw : ∃ w, Wd B H w) (hm : ownB ty k A m c xs ∈ H) : (A = none ∧ m = 0 ∧ c = 0) ∨ ∃ g, A = some ⟨g, 0, none⟩ := by
 obtain ⟨w, hw⟩ := hw
 have h : w.ownsRow 0 ty k (.slice A m c) m xs := (hw.ok _ hm).1
 rcases h.2 with ⟨h1, h2⟩ | ⟨g, cap, cur, h1, -⟩
 ·injection h1 with e1 e2 e3
  exact .inl ⟨e1, e2, e3⟩
 ·injection h1 with e1
  exact .inr ⟨g, e1⟩
theorem Wd.keepM {B : Bs} {H : List It} {A C : It} {w0 w : World} (hw : Wd B H w0) (hW : Wd ⟨w0, A.foot, none, []⟩ [] w) (hk : Pk [C, A] H) (hr : C.ro = false) : C.holds w := by
 have h2 := hw.pick hk
 have hs := sepR.out ((List.pairwise_cons.1 h2.sep).1 A (by simp)) hr
 have o := h2.ok C (by simp)
 exact C.st w0 w (fun b hb => hW.block b (o.2 b hb).2 (fun h => hs b hb h)) o.1
theorem Wd.belM2 {H : List It} {A : It} {w0 w1 w : World} {r : Option Nat} {d : List Deferred} (hw : Wd ⟨w0, fun _ => False, r, d⟩ H w1) (hA : A ∈ H) (hAr : A.ro = false) (hW : Wd ⟨w1, A.foot, none, []⟩ [] w) : Below w0.heap.size w0 w := by
 refine ⟨hW.os.trans hw.os, hW.tape.trans hw.tape, hW.output.trans hw.output, Nat.le_trans hw.size hW.size, fun b hlt => (hW.block b (Nat.lt_of_lt_of_le hlt hw.size) (fun hf => ?_)).trans (hw.block b hlt (fun h => h))⟩
 have hlt' : b < w0.heap.size := hlt
 rcases ((hw.ok A hA).2 b hf).1 with h | h | h
 ·rw [hAr] at h; cases h
 ·exact h
 ·have : w0.heap.size ≤ b := h
  omega
set_option maxRecDepth 100000 in
set_option maxHeartbeats 4000000 in
theorem nearest_any (l : List St) (v : Value) (w : World) (hrow : Arr 4 eT w v l) (hok : ∀ s ∈ l, OkS s.x s.y) (hpl : ∀ s ∈ l, Play s.x s.y) (hl9 : l.length ≤ 19) : Calls Tryz.prog 65 #[v] w (Ret w (fun t : NrT => NrP l t.L) (fun t => .slice t.A t.L.length t.c) (fun t => [ownB 3 1 t.A t.L.length t.c (t.L.flatMap eN)])) := by
 have hrow0 := hrow
 obtain ⟨A, cap, rfl, -, ⟨hl, -⟩, hA⟩ := hrow
 refine J_startM (B := bs w) rfl rfl (vs := [.slice A l.length cap]) (k := 16) (l := [(0, .slice A l.length cap)]) Tryz.func65 rfl rfl Tryz.ntmps65 rfl rfl ((Wd.start (bs w))) ?_
 refine s2 ?_
 refine aW (oX [_]) (fun b1 hb1 => ?_)
 refine s5 ?_
 refine aW oA (fun b3 hb3 => ?_)
 refine s4 ?_
 refine J_own0 3 1 ?_
 refine J_defs ?_
 refine s2 ?_
 refine aW (oR (fun w hw => housed_any A l.length cap w)) (fun bh _ => ?_)
 refine s3 ?_
 refine J_range2 (T := HsT) (Y := Nat × St) (Ds := []) (p := 7) (q := 8) (fun t => t.n ≤ (hsA l).length) (fun t X => [cellB bh [.slice A l.length cap] 24, cellB b1 [.slice A l.length cap] 24, cellB b3 [.slice t.A (hsX l t.n).length t.c] 34, ownB 3 1 t.A (hsX l t.n).length t.c ((hsX l t.n).flatMap eN), X]) (fun t y => (hsA l)[t.n]? = some y.1 ∧ l[y.1]? = some y.2) (fun y => .int .i64 (y.1 : Nat)) (fun y => Stv y.2) (fun t y X => [cellB bh [.slice A l.length cap] 24, cellB b1 [.slice A l.length cap] 24, cellB b3 [.slice t.A (hsX l t.n).length t.c] 34, ownB 3 1 t.A (hsX l t.n).length t.c ((hsX l t.n).flatMap eN), X]) (fun t t' => t'.n = t.n + 1) (fun t => t.n = (hsA l).length) (fun t => t.n = 0) (fun y => [(1, .pointer (some ⟨b1, 0, none⟩)), (3, .pointer (some ⟨b3, 0, none⟩)), (4, .int .i64 (y.1 : Nat))]) (housed1_any l A cap bh b3 w (cellB b1 [.slice A l.length cap] 24) hrow0 hok) (⟨0, none, 0⟩) ((Nat.zero_le _)) (rfl) ?_ ?_ ?_
 ·rintro lp t ⟨yk, ys⟩ X ht ⟨hy1, hy2⟩
  dsimp only at hy1 hy2 ⊢
  have hxl := hsX_len l t.n
  refine kJ [(1, _), (3, _), (7, _)] ?_
  refine s3 ?_
  exact xE () trivial
 ·rintro lp t ⟨yk, ys⟩ X ht ⟨hy1, hy2⟩
  dsimp only at hy1 hy2 ⊢
  have hxl := hsX_len l t.n
  refine s4 ?_
  refine aW (ow_sliceC (vs := [_]) (ty := 3) rfl rfl (by rfl) rfl rfl (fun _ => by kernel_rfl)) (fun b11 hb11 => ?_)
  refine aS (oApp (sl := 34) EN (yk)) (fun A12 c12 => ?_)
  refine s3 ?_
  have hs := hsX_s hy1
  exact xE ⟨t.n + 1, A12, c12⟩ ⟨rfl, by have := (List.getElem?_eq_some_iff.1 hy1).1; dsimp only; omega⟩ (hH := by (try dsimp only); rw [hs]; repeat constructor)
 ·rintro D t ht hfin
  refine s3 ?_
  have ht2 : hsX l t.n = hsA l := by rw [hfin]; exact hsX_all l
  rw [ht2]
  refine J_fact (fun hw => ?_)
  rcases own_cs hw (ty := 3) (k := 1) (A := t.A) (m := (hsA l).length) (c := t.c) (xs := (hsA l).flatMap eN) (by repeat constructor) with ⟨hz1, hz2, hz3⟩ | ⟨g, hz1⟩
  ·clear hw
   have hz4 : hsA l = [] := List.length_eq_zero_iff.1 hz2
   rw [hz1, hz3, hz4]
   refine kJ [(1, _), (3, _)] ?_
   refine s3 ?_
   refine aCB (fun w hw => sortStable_nil _ w) ?_
   refine s3 ?_
   refine kJ [(3, _)] ?_
   refine s6 ?_
   refine JR_marks (fun X => [ownB 3 1 none 0 0 [], X]) rfl (fun _ => rr_tmp rfl) ?_
   intro w' hw
   exact ⟨⟨[], none, 0⟩, ⟨by rw [hz4], List.Pairwise.nil⟩, rfl, (hw.un (r' := none) (d' := [])).pick (by repeat constructor)⟩
  ·clear hw
   rw [hz1]
   refine kJ [(1, _), (3, _)] ?_
   refine s3 ?_
   refine aW (oM (fun w hw => sortStable_any 116 #[.pointer (some ⟨b1, 0, none⟩)] (sqAt l) (hsA l) g t.c w (hw.ok (ownB 3 1 (some ⟨g, 0, none⟩) (hsA l).length t.c ((hsA l).flatMap eN)) (by repeat constructor)).1 (fun b hb => ((hw.ok (ownB 3 1 (some ⟨g, 0, none⟩) (hsA l).length t.c ((hsA l).flatMap eN)) (by repeat constructor)).2 b hb).2) (hsA_up l) (by have := hsN_len l l.length; unfold hsA; omega) (fun i k hi hk W hW => near1_any l A cap b1 i k W (hw.keepM (A := ownB 3 1 (some ⟨g, 0, none⟩) (hsA l).length t.c ((hsA l).flatMap eN)) (C := cellB b1 [.slice A l.length cap] 24) hW (by repeat constructor) rfl) (hrow0.up ET (hw.belM2 (A := ownB 3 1 (some ⟨g, 0, none⟩) (hsA l).length t.c ((hsA l).flatMap eN)) (by repeat constructor) rfl hW)) (hsA_mem hi) (hsA_mem hk) hpl))) (fun dd hdd => ?_)
   refine s3 ?_
   refine kJ [(3, _)] ?_
   refine s6 ?_
   refine JR_marks (fun X => [ownB 3 1 (some ⟨g, 0, none⟩) dd.length t.c (dd.flatMap eN), X]) rfl (fun _ => rr_tmp rfl) ?_
   intro w' hw
   have hdl := hdd.1.length_eq
   exact ⟨⟨dd, some ⟨g, 0, none⟩, t.c⟩, hdd, by dsimp only; rw [hdl], (hw.un (r' := none) (d' := [])).pick (by repeat constructor)⟩
end Go.Proofs.YtmcpnoailbmkkaaGreatDoor
