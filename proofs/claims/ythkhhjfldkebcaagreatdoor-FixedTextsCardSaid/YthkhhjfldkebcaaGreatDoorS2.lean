/- A region that draws its order: some operations that are quiet, two variables made (at whatever time), and a tail whose order is set. One walk, whatever the order. Over any program. -/
import Derived.Test.YthkhhjfldkebcaaGreatDoorS
import Derived.Test.YthkhhjfldkebcaaGreatDoorR
namespace Go.Proofs.YthkhhjfldkebcaaGreatDoor
open Go Go.RowKit

section
variable {P : Program} {ops : Array Oper}

/-- What is looked at of the region's text. -/
def allocsB (ops : Array Oper) (n : Nat) : Bool :=
  Region.noSelect ops && decide (n + 2 < ops.size) &&
  (List.range n).all (fun i => ((ops[i]?).map fun o => o.after.all fun e => !Region.binds .any e || decide (e.on < i)).getD false) &&
  [n, n + 1].all (fun i => ((ops[i]?).map fun o => o.guard.isNone && o.after.all fun e => !Region.binds .any e).getD false) &&
  (List.range n).all (fun i => ((ops[i]?).map fun o => (List.range (n + 2)).all fun j => ((ops[j]?).map fun oj => match oj.dst with | none => true | some t => !(o.looksAt ops).contains t || o.after.any (fun e => Region.binds .any e && e.on == j)).getD false).getD false) &&
  (List.range (n + 2)).all (fun i => (List.range (n + 2)).all fun j => i == j || ((ops[i]?).bind (·.dst)).isNone || (ops[i]?).bind (·.dst) != (ops[j]?).bind (·.dst)) &&
  Region.sinkB .any ops (n + 2) && Region.chainB .any ops (n + 2) &&
  Region.seqB .any ops (ops.size - (n + 2)) (n + 2) (((List.range ops.size).map fun i => decide (i < n + 2)).toArray)

structure AllocsR (ops : Array Oper) (n : Nat) : Prop where
  nosel : Region.noSelect ops = true
  size : n + 2 < ops.size
  deps : ∀ i, i < n → ∀ o, ops[i]? = some o → ∀ e ∈ o.after, Region.binds .any e = true → e.on < i
  free : ∀ i, i = n ∨ i = n + 1 → ∀ o, ops[i]? = some o → o.guard = none ∧ ∀ e ∈ o.after, Region.binds .any e = false
  looks : ∀ i, i < n → ∀ o, ops[i]? = some o → ∀ j, j < n + 2 → ∀ oj t, ops[j]? = some oj → oj.dst = some t → t ∈ o.looksAt ops → ∃ e ∈ o.after, Region.binds .any e = true ∧ e.on = j
  single : ∀ i, i < n + 2 → ∀ j, j < n + 2 → ∀ oi oj t, ops[i]? = some oi → ops[j]? = some oj → oi.dst = some t → oj.dst = some t → i = j
  sink : Region.sinkB .any ops (n + 2) = true
  chain : Region.chainB .any ops (n + 2) = true
  seq : Region.seqB .any ops (ops.size - (n + 2)) (n + 2) (((List.range ops.size).map fun i => decide (i < n + 2)).toArray) = true

theorem allocs_of {n : Nat} (h : allocsB ops n = true) : AllocsR ops n := by
  simp only [allocsB, Bool.and_eq_true, decide_eq_true_eq, List.all_eq_true, List.mem_range] at h
  obtain ⟨⟨⟨⟨⟨⟨⟨⟨h1, h2⟩, h3⟩, h4⟩, h5⟩, h6⟩, h7⟩, h8⟩, h9⟩ := h
  refine ⟨h1, h2, ?_, ?_, ?_, ?_, h7, h8, h9⟩
  · intro i hi o ho e he hb
    have := h3 i hi
    simp only [ho, Option.map_some, Option.getD_some] at this
    have := Array.all_eq_true'.1 this e he
    simpa [hb] using this
  · intro i hi o ho
    have := h4 i (by simpa using hi)
    simp only [ho, Option.map_some, Option.getD_some, Bool.and_eq_true, Option.isNone_iff_eq_none] at this
    refine ⟨this.1, fun e he => ?_⟩
    have := Array.all_eq_true'.1 this.2 e he
    simpa using this
  · intro i hi o ho j hj oj t hoj hd ht
    have := h5 i hi
    simp only [ho, Option.map_some, Option.getD_some, List.all_eq_true, List.mem_range] at this
    have := this j hj
    simp only [hoj, Option.map_some, Option.getD_some, hd, Bool.or_eq_true, Bool.not_eq_true', List.contains_eq_mem, decide_eq_false_iff_not] at this
    rcases this with h | h
    · exact absurd ht h
    · simp only [Array.any_eq_true', Bool.and_eq_true, beq_iff_eq] at h
      exact h
  · intro i hi j hj oi oj t hoi hoj hdi hdj
    have := h6 i hi j hj
    simp only [hoi, hoj, Option.bind_some, hdi, hdj, Bool.or_eq_true, beq_iff_eq] at this
    simpa using this

theorem fillF_size (val : Nat → Value) : ∀ (l : List Nat) (a : Act), (fillF ops val l a).tmps.size = a.tmps.size
  | [], _ => rfl
  | i :: l, a => by
    simp only [fillF, List.foldl_cons]
    refine (fillF_size val l _).trans ?_
    cases ops[i]? <;> simp [put_size]
theorem act_ext {a b : Act} (h : ∀ t : Nat, a.tmps[t]? = b.tmps[t]?) (hd : a.defers = b.defers) : a = b := by
  cases a; cases b
  simp only at h hd
  subst hd
  congr 1
  exact Array.ext_getElem? h
/-- Two fillings that agree on where each slot comes from. -/
theorem fillF_ext {N : Nat} (hs : ∀ i, i < N → ∀ j, j < N → ∀ oi oj t, ops[i]? = some oi → ops[j]? = some oj → oi.dst = some t → oj.dst = some t → i = j) {val val' : Nat → Value} {L L' : List Nat} {a : Act}
    (hL : ∀ i ∈ L, i < N) (hL' : ∀ i ∈ L', i < N) (hm : ∀ i, i ∈ L ↔ i ∈ L')
    (hv : ∀ i ∈ L, ∀ o t, ops[i]? = some o → o.dst = some t → t < a.tmps.size → val i = val' i) : fillF ops val L a = fillF ops val' L' a := by
  refine act_ext (fun t => ?_) (by rw [fillF_defers, fillF_defers])
  by_cases hx : ∃ j ∈ L, ∃ oj, ops[j]? = some oj ∧ oj.dst = some t
  · obtain ⟨j, hj, oj, hoj, hdj⟩ := hx
    rw [fillF_some val t j oj hoj hdj L a hj (fun k hk ok hok hdk => hs k (hL k hk) j (hL j hj) ok oj t hok hoj hdk hdj),
      fillF_some val' t j oj hoj hdj L' a ((hm j).1 hj) (fun k hk ok hok hdk => hs k (hL' k hk) j (hL j hj) ok oj t hok hoj hdk hdj)]
    split
    · rw [hv j hj oj t hoj hdj (by assumption)]
    · rfl
  · rw [fillF_none val t L a (fun k hk ok hok hdk => hx ⟨k, hk, ok, hok, hdk⟩), fillF_none val' t L' a (fun k hk ok hok hdk => hx ⟨k, (hm k).2 hk, ok, hok, hdk⟩)]

theorem fillF_append (val : Nat → Value) (l l' : List Nat) (a : Act) : fillF ops val (l ++ l') a = fillF ops val l' (fillF ops val l a) := by
  simp [fillF, List.foldl_append]

theorem fillF_one {val : Nat → Value} {i : Nat} {o : Oper} (h : ops[i]? = some o) (a : Act) : fillF ops val [i] a = a.put o.dst (val i) := by
  simp only [fillF, List.foldl_cons, List.foldl_nil, h]

/-- Two variables made, at whatever time. -/
structure Made (w : World) (Z1 Z2 : Obj) (L : List Nat) (n : Nat) (b1 b2 : Nat) (w' : World) : Prop where
  below : Below w.heap.size w w'
  fst : n ∈ L → w.heap.size ≤ b1 ∧ b1 < w'.heap.size ∧ w'.heap[b1]? = some Z1
  snd : n + 1 ∈ L → w.heap.size ≤ b2 ∧ b2 < w'.heap.size ∧ w'.heap[b2]? = some Z2
  ne : n ∈ L → n + 1 ∈ L → b1 ≠ b2

theorem heap_alloc_last (w : World) (o : Obj) : (w.alloc o).heap[w.heap.size]? = some o := by
  show (w.heap.push o)[w.heap.size]? = some o
  simp

set_option maxHeartbeats 2000000 in
theorem wp_region_two_allocs {id : Nat} {Q : Exit → Act → World → Prop} {a : Act} {w : World} {l : List Oper} (n : Nat) (Z1 Z2 : Obj) (hm : P.follows .mixedOrders = true) (hB : allocsB l.toArray n = true)
    (h1 : ∀ o, l[n]? = some o → ∀ ρ w, (execOp ρ o).run P w = .ok (.value (.pointer (some ⟨w.heap.size, 0, none⟩))) (w.alloc Z1))
    (h2 : ∀ o, l[n + 1]? = some o → ∀ ρ w, (execOp ρ o).run P w = .ok (.value (.pointer (some ⟨w.heap.size, 0, none⟩))) (w.alloc Z2))
    (hA : ∃ A : Act, (∀ W0, Below w.heap.size w W0 → wpQuiet P l.toArray (fun w' => ∃ X : BW W0, w' = X.to) (fun a' => a' = A) (l.take n) a) ∧
    (∀ b1 b2 w', Below w.heap.size w w' → w.heap.size ≤ b1 → w.heap.size ≤ b2 → b1 ≠ b2 → b1 < w'.heap.size → b2 < w'.heap.size → w'.heap[b1]? = some Z1 → w'.heap[b2]? = some Z2 →
      wpList P l.toArray Q (l.drop (n + 2)) ((A.put ((l[n]?).bind (·.dst)) (.pointer (some ⟨b1, 0, none⟩))).put ((l[n + 1]?).bind (·.dst)) (.pointer (some ⟨b2, 0, none⟩))) w')) :
    (Code.region id l.toArray true).wp P Q a w := by
  obtain ⟨A, hq, hk⟩ := hA
  have R := allocs_of hB
  have hsz : n + 2 < l.length := by simpa using R.size
  obtain ⟨o1, ho1⟩ : ∃ o, l.toArray[n]? = some o := ⟨_, Array.getElem?_eq_getElem (by have := R.size; omega)⟩
  obtain ⟨o2, ho2⟩ : ∃ o, l.toArray[n + 1]? = some o := ⟨_, Array.getElem?_eq_getElem (by have := R.size; omega)⟩
  have ho1' : l[n]? = some o1 := by simpa using ho1
  have ho2' : l[n + 1]? = some o2 := by simpa using ho2
  have hsel : ∀ (j : Nat) (o : Oper) cs b, l.toArray[j]? = some o → o.op ≠ .select cs b := Region.noSelect_spec R.nosel
  have htake : l.take n = (List.range n).filterMap (l.toArray[·]?) := by
    have : ∀ (k : Nat), k ≤ l.length → l.take k = (List.range k).filterMap (l.toArray[·]?) := by
      intro k
      induction k with
      | zero => intro _; simp
      | succ k ih =>
        intro hk
        rw [List.range_succ, List.filterMap_append, ← ih (by omega)]
        have : l[k]? = some l[k] := List.getElem?_eq_getElem (by omega)
        rw [List.take_add_one]
        simp [this]
    exact this n (by omega)
  have ext : ∀ W0, Below w.heap.size w W0 → ∃ val : Nat → Value, (∀ pre i post, List.range n = pre ++ i :: post → ∀ o, l.toArray[i]? = some o → YieldsIn P l.toArray (fun w' => ∃ X : BW W0, w' = X.to) o (val i) (fillF l.toArray val pre a)) ∧ fillF l.toArray val (List.range n) a = A := by
    intro W0 hW0
    have := hq W0 hW0
    rw [htake] at this
    exact extract (List.range n) a (fun i hi => by have := List.mem_range.1 hi; have := R.size; omega) List.nodup_range this
  obtain ⟨val, -, hA⟩ := ext w (Below.refl _ _)
  -- the values are the same in whatever world
  let V (b1 b2 : Nat) : Nat → Value := fun i => if i = n then .pointer (some ⟨b1, 0, none⟩) else if i = n + 1 then .pointer (some ⟨b2, 0, none⟩) else val i
  have single := R.single
  have same : ∀ val0, fillF l.toArray val0 (List.range n) a = A → ∀ i, i < n → ∀ o t, l.toArray[i]? = some o → o.dst = some t → t < a.tmps.size → val0 i = val i := by
    intro val0 h0 i hi o t ho hd ht
    have hu : ∀ k ∈ List.range n, ∀ ok, l.toArray[k]? = some ok → ok.dst = some t → k = i := fun k hk ok hok hdk => single k (by have := List.mem_range.1 hk; omega) i (by omega) ok o t hok ho hdk hd
    have e1 := fillF_some val0 t i o ho hd (List.range n) a (List.mem_range.2 hi) hu
    have e2 := fillF_some val t i o ho hd (List.range n) a (List.mem_range.2 hi) hu
    rw [h0, ← hA, e2, if_pos ht, if_pos ht] at e1
    exact (Option.some.inj e1).symm
  have yields : ∀ i, i < n → ∀ o, l.toArray[i]? = some o → ∀ (L : List Nat) b1 b2, (∀ j ∈ L, j < n + 2) → (∀ e ∈ o.after, Region.binds .any e = true → e.on ∈ L) → i ∉ L → ∀ w1, Below w.heap.size w w1 →
      ∃ v, YieldsIn P l.toArray (fun w' => ∃ X : BW w1, w' = X.to) o v (fillF l.toArray (V b1 b2) L a) ∧ (fillF l.toArray (V b1 b2) L a).put o.dst v = fillF l.toArray (V b1 b2) (L ++ [i]) a := by
    intro i hi o ho L b1 b2 hL hd hiL w1 hw1
    obtain ⟨val0, hy, h0⟩ := ext w1 hw1
    have hrange : List.range n = List.range i ++ i :: (List.range (n - i - 1)).map (· + (i + 1)) := by
      have e1 : n = (i + 1) + (n - i - 1) := by omega
      have e2 : List.range ((i + 1) + (n - i - 1)) = List.range (i + 1) ++ (List.range (n - i - 1)).map (· + (i + 1)) := by
        rw [List.range_add]; congr 1; apply List.map_congr_left; intro x _; omega
      rw [← e1] at e2
      rw [e2, List.range_succ]; simp
    have hyi := hy _ i _ hrange o ho
    have hag : ∀ t ∈ o.looksAt l.toArray, (fillF l.toArray (V b1 b2) L a).tmps[t]? = (fillF l.toArray val0 (List.range i) a).tmps[t]? := by
      intro t ht
      by_cases hx : ∃ j, j < n + 2 ∧ ∃ oj, l.toArray[j]? = some oj ∧ oj.dst = some t
      · obtain ⟨j, hj, oj, hoj, hdj⟩ := hx
        obtain ⟨e, he, hb, hon⟩ := R.looks i hi o ho j hj oj t hoj hdj ht
        have hji : j < i := by rw [← hon]; exact R.deps i hi o ho e he hb
        have hu : ∀ M : List Nat, (∀ j ∈ M, j < n + 2) → ∀ k ∈ M, ∀ ok, l.toArray[k]? = some ok → ok.dst = some t → k = j := fun M hM k hk ok hok hdk => single k (hM k hk) j hj ok oj t hok hoj hdk hdj
        rw [fillF_some _ t j oj hoj hdj L a (by rw [← hon]; exact hd e he hb) (hu L hL), fillF_some _ t j oj hoj hdj (List.range i) a (List.mem_range.2 hji) (hu _ (fun k hk => by have := List.mem_range.1 hk; omega))]
        split
        · rename_i hts
          have : V b1 b2 j = val j := by show (if j = n then _ else if j = n + 1 then _ else val j) = val j; rw [if_neg (by omega), if_neg (by omega)]
          rw [this, same val0 h0 j (by omega) oj t hoj hdj hts]
        · rfl
      · have hno : ∀ M : List Nat, (∀ j ∈ M, j < n + 2) → ∀ k ∈ M, ∀ ok, l.toArray[k]? = some ok → ok.dst ≠ some t := fun M hM k hk ok hok hdk => hx ⟨k, hM k hk, ok, hok, hdk⟩
        rw [fillF_none _ t L a (hno L hL), fillF_none _ t (List.range i) a (hno _ (fun k hk => by have := List.mem_range.1 hk; omega))]
    refine ⟨val0 i, hyi.of_same (exec_same o (fun cs b => hsel i o cs b ho) _ _ hag) (wanted_same o _ _ hag), ?_⟩
    have e3 : (fillF l.toArray (V b1 b2) L a).put o.dst (val0 i) = fillF l.toArray (fun k => if k = i then val0 i else V b1 b2 k) (L ++ [i]) a := by
      rw [fillF_append]
      have : fillF l.toArray (fun k => if k = i then val0 i else V b1 b2 k) L a = fillF l.toArray (V b1 b2) L a := fillF_congr L a fun k hk => by
        have hki : k ≠ i := fun e => hiL (e ▸ hk)
        exact if_neg hki
      rw [this, fillF_one ho, if_pos rfl]
    rw [e3]
    refine fillF_ext single (fun k hk => by simp at hk; rcases hk with hk | hk; exact hL k hk; omega) (fun k hk => by simp at hk; rcases hk with hk | hk; exact hL k hk; omega) (fun _ => Iff.rfl) ?_
    intro k hk ok t hok hdk hts
    by_cases hki : k = i
    · subst hki
      rw [if_pos rfl]
      show val0 k = (if k = n then _ else if k = n + 1 then _ else val k)
      rw [if_neg (by omega), if_neg (by omega)]
      exact same val0 h0 k hi ok t hok hdk hts
    · rw [if_neg hki]
  -- a variable is made
  have made : ∀ i, i = n ∨ i = n + 1 → ∀ o, l.toArray[i]? = some o → ∀ (L : List Nat) b1 b2 b, i ∉ L → (fillF l.toArray (V b1 b2) L a).put o.dst (.pointer (some ⟨b, 0, none⟩)) = fillF l.toArray (if i = n then V b b2 else V b1 b) (L ++ [i]) a := by
    intro i hi o ho L b1 b2 b hiL
    rw [fillF_append]
    have : fillF l.toArray (if i = n then V b b2 else V b1 b) L a = fillF l.toArray (V b1 b2) L a := fillF_congr L a fun k hk => by
      have hki : k ≠ i := fun e => hiL (e ▸ hk)
      rcases hi with rfl | rfl
      · rw [if_pos rfl]; show (if k = _ then _ else _) = (if k = _ then _ else _); rw [if_neg hki, if_neg hki]
      · rw [if_neg (by omega)]; show (if k = n then _ else if k = n + 1 then _ else val k) = (if k = n then _ else if k = n + 1 then _ else val k); rw [if_neg hki, if_neg hki]
    rw [this]
    have hv : (if i = n then V b b2 else V b1 b) i = .pointer (some ⟨b, 0, none⟩) := by
      rcases hi with rfl | rfl
      · rw [if_pos rfl]; show (if _ then _ else _) = _; rw [if_pos rfl]
      · rw [if_neg (by omega)]; show (if n + 1 = n then _ else if n + 1 = n + 1 then _ else _) = _; rw [if_neg (by omega), if_pos rfl]
    rw [fillF_one ho, hv]
  have key : ∀ (fuel : Nat) (listed : Array Bool) (L : List Nat) (b1 b2 : Nat) (w1 : World), Made w Z1 Z2 L n b1 b2 w1 → HeadInv .any l.toArray (n + 2) listed → (∀ i, i < l.toArray.size → (listed.getD i false = true ↔ i ∈ L)) → L.Nodup → (∀ j ∈ L, j < n + 2) → fuel + L.length = n + 2 →
      wpAny P .any l.toArray Q (fuel + (l.toArray.size - (n + 2))) listed (fillF l.toArray (V b1 b2) L a) w1 := by
    intro fuel
    induction fuel with
    | zero =>
      intro listed L b1 b2 w1 hw inv hli hLn hLa hf
      have hall : ∀ i, i < n + 2 → i ∈ L := by
        intro i hi
        by_cases hx : i ∈ L
        · exact hx
        · exfalso
          have h1 : (i :: L).Nodup := List.nodup_cons.2 ⟨hx, hLn⟩
          have := nodup_len (n + 2) (i :: L) h1 (fun x hx => by
            simp only [List.mem_cons] at hx
            rcases hx with rfl | hx
            · exact hi
            · exact hLa x hx)
          simp at this
          omega
      have hlist : listed = ((List.range l.toArray.size).map fun i => decide (i < n + 2)).toArray := by
        apply Array.ext
        · rw [inv.size]; simp
        · intro i hi1 hi2
          have hi : i < l.toArray.size := by rw [← inv.size]; exact hi1
          have := hli i hi
          rw [Array.getD_eq_getD_getElem?, Array.getElem?_eq_getElem hi1] at this
          simp only [Option.getD_some] at this
          simp only [List.getElem_toArray, List.getElem_map, List.getElem_range]
          by_cases hin : i < n + 2
          · rw [this.2 (hall i hin)]; simp [hin]
          · have hn : ¬ i ∈ L := fun h => hin (hLa i h)
            have : listed[i] = false := by cases hc : listed[i] <;> simp_all
            rw [this]; simp [hin]
      have hfr : fillF l.toArray (V b1 b2) L a = (A.put ((l[n]?).bind (·.dst)) (.pointer (some ⟨b1, 0, none⟩))).put ((l[n + 1]?).bind (·.dst)) (.pointer (some ⟨b2, 0, none⟩)) := by
        have e1 : fillF l.toArray (V b1 b2) L a = fillF l.toArray (V b1 b2) (List.range n ++ [n, n + 1]) a := by
          refine fillF_ext single hLa (fun k hk => ?_) (fun k => ?_) (fun _ _ _ _ _ _ _ => rfl)
          · simp at hk; omega
          · constructor
            · intro hk; have := hLa k hk; simp; omega
            · intro hk; exact hall k (by simp at hk; omega)
        have e2 : fillF l.toArray (V b1 b2) (List.range n) a = A := by
          rw [← hA]
          refine fillF_congr _ _ fun k hk => ?_
          have := List.mem_range.1 hk
          show (if k = n then _ else if k = n + 1 then _ else val k) = val k
          rw [if_neg (by omega), if_neg (by omega)]
        rw [e1, fillF_append, e2]
        have v1 : V b1 b2 n = .pointer (some ⟨b1, 0, none⟩) := by show (if n = n then _ else _) = _; rw [if_pos rfl]
        have v2 : V b1 b2 (n + 1) = .pointer (some ⟨b2, 0, none⟩) := by show (if n + 1 = n then _ else if n + 1 = n + 1 then _ else _) = _; rw [if_neg (by omega), if_pos rfl]
        simp only [fillF, List.foldl_cons, List.foldl_nil, ho1, ho2, ho1', ho2', Option.bind_some, v1, v2]
      obtain ⟨f1, f2, f3⟩ := hw.fst (hall n (by omega))
      obtain ⟨g1, g2, g3⟩ := hw.snd (hall (n + 1) (by omega))
      have := hk b1 b2 w1 hw.below f1 g1 (hw.ne (hall n (by omega)) (hall (n + 1) (by omega))) f2 g2 f3 g3
      rw [← hfr] at this
      have hdl : (l.drop (n + 2)).length = l.toArray.size - (n + 2) := by simp
      have := wpAny_of_seq (md := .any) (Q' := Q) (l.drop (n + 2)) (n + 2) listed _ w1 (fun j => by simp [List.getElem?_drop]) (by rw [hdl, hlist]; exact R.seq) this
      rwa [hdl, ← Nat.zero_add (l.toArray.size - (n + 2))] at this
    | succ fuel ih =>
      intro listed L b1 b2 w1 hw inv hli hLn hLa hf
      have hnotall : ∃ i, i < n + 2 ∧ i ∉ L := by
        by_cases hx : ∃ i, i < n + 2 ∧ i ∉ L
        · exact hx
        · exfalso
          have hsub : ∀ x ∈ List.range (n + 2), x ∈ L := fun x hx' => by
            by_cases hL : x ∈ L
            · exact hL
            · exact absurd ⟨x, List.mem_range.1 hx', hL⟩ hx
          have := (List.nodup_range (n := n + 2)).length_le_of_subset hsub
          simp at this
          omega
      have unl : ∀ i, i < n + 2 → i ∉ L → listed.getD i true = false := by
        intro i hi hx
        have hib : i < l.toArray.size := by have := R.size; omega
        have := hli i hib
        have hil : i < listed.size := by rw [inv.size]; exact hib
        rw [Array.getD_eq_getD_getElem?, Array.getElem?_eq_getElem hil] at this ⊢
        simp only [Option.getD_some] at this ⊢
        cases hc : listed[i]
        · rfl
        · exact absurd (this.1 hc) hx
      rw [show fuel + 1 + (l.toArray.size - (n + 2)) = (fuel + (l.toArray.size - (n + 2))) + 1 by omega]
      refine ⟨fun hnil => ?_, fun i hi => ?_⟩
      · exfalso
        obtain ⟨p, hp1, hp2⟩ := hnotall
        obtain ⟨m, ⟨hm1, hm2⟩, hmin⟩ := minimal (p := fun i => i < n + 2 ∧ i ∉ L) (n := p) ⟨hp1, hp2⟩
        have hmb : m < l.toArray.size := by have := R.size; omega
        have : m ∈ Region.ready .any l.toArray listed := by
          rw [mem_ready]
          refine ⟨unl m hm1 hm2, _, Array.getElem?_eq_getElem hmb, fun e he hb => ?_⟩
          by_cases hmn : m < n
          · have hlt := R.deps m hmn _ (Array.getElem?_eq_getElem hmb) e he hb
            have hin : e.on ∈ L := by
              rcases Decidable.em (e.on ∈ L) with hx | hx
              · exact hx
              · exact absurd ⟨by omega, hx⟩ (hmin e.on hlt)
            exact (hli e.on (by omega)).2 hin
          · have := (R.free m (by omega) _ (Array.getElem?_eq_getElem hmb)).2 e he
            rw [hb] at this; cases this
        rw [hnil] at this
        cases this
      · obtain ⟨hun, o, ho, hall⟩ := mem_ready.1 hi
        have hib : i < l.toArray.size := by
          rcases Nat.lt_or_ge i l.toArray.size with hx | hx
          · exact hx
          · rw [Array.getElem?_eq_none hx] at ho; cases ho
        have hin : i < n + 2 := by
          rcases Nat.lt_or_ge i (n + 2) with hx | hx
          · exact hx
          · obtain ⟨p, hp1, hp2⟩ := hnotall
            exact absurd hi (tail_waits R.sink R.chain R.size inv _ p rfl hp1 (unl p hp1 hp2) i hx)
        have hiL : i ∉ L := fun hx => by
          have := (hli i hib).2 hx
          rw [Array.getD_eq_getD_getElem?, Array.getElem?_eq_getElem (by rw [inv.size]; exact hib)] at this hun
          simp at this hun
          rw [this] at hun; cases hun
        have hlisted : ∀ k, listed.getD k false = true → k ∈ L := fun k hk => by
          rcases Nat.lt_or_ge k l.toArray.size with hx | hx
          · exact (hli k hx).1 hk
          · rw [Array.getD_eq_getD_getElem?, Array.getElem?_eq_none (by rw [inv.size]; omega)] at hk; cases hk
        have hdeps : ∀ e ∈ o.after, Region.binds .any e = true → e.on ∈ L := fun e he hb => hlisted _ (hall e he hb)
        have hli' : ∀ k, k < l.toArray.size → ((listed.setIfInBounds i true).getD k false = true ↔ k ∈ L ++ [i]) := by
          intro k hk
          rw [Array.getD_eq_getD_getElem?, Array.getElem?_setIfInBounds]
          by_cases hki : i = k
          · subst hki
            rw [if_pos rfl, if_pos (by rw [inv.size]; exact hib)]
            simp
          · rw [if_neg hki, ← Array.getD_eq_getD_getElem?, hli k hk]
            simp only [List.mem_append, List.mem_singleton]
            constructor
            · exact .inl
            · rintro (h | rfl)
              · exact h
              · exact absurd rfl hki
        have hLn' : (L ++ [i]).Nodup := by rw [List.nodup_append]; exact ⟨hLn, by simp, fun x hx y hy => by simp at hy; subst hy; exact fun e => hiL (e ▸ hx)⟩
        have hLa' : ∀ j ∈ L ++ [i], j < n + 2 := fun j hj => by simp at hj; rcases hj with hj | hj; exact hLa j hj; omega
        have inv' := inv.set hi hin
        by_cases hq' : i < n
        · obtain ⟨v, hy, hput⟩ := yields i hq' o ho L b1 b2 hLa hdeps hiL w1 hw.below
          refine wpOp_of_qOp (C := fun w' => ∃ X : BW w1, w' = X.to) (K := fun a' => a' = fillF l.toArray (V b1 b2) (L ++ [i]) a) ⟨⟨w1, Below.refl _ _⟩, rfl⟩ (fun a' w' hw' ha' => ?_) (hy.qOp ho hput)
          subst ha'
          obtain ⟨X, rfl⟩ := hw'
          refine ih _ (L ++ [i]) b1 b2 X.to ?_ inv' hli' hLn' hLa' (by simp; omega)
          have hsz1 := hw.below.size
          refine ⟨hw.below.trans (X.same.mono hsz1), fun h => ?_, fun h => ?_, fun h h' => ?_⟩
          · obtain ⟨f1, f2, f3⟩ := hw.fst (by simp at h; rcases h with h | h; exact h; omega)
            exact ⟨f1, Nat.lt_of_lt_of_le f2 X.same.size, (X.same.block b1 f2).trans f3⟩
          · obtain ⟨f1, f2, f3⟩ := hw.snd (by simp at h; rcases h with h | h; exact h; omega)
            exact ⟨f1, Nat.lt_of_lt_of_le f2 X.same.size, (X.same.block b2 f2).trans f3⟩
          · exact hw.ne (by simp at h; rcases h with h | h; exact h; omega) (by simp at h'; rcases h' with h' | h'; exact h'; omega)
        · have hi2 : i = n ∨ i = n + 1 := by omega
          have hg := (R.free i hi2 o ho).1
          have hrun : ∃ Z, (∀ ρ w, (execOp ρ o).run P w = .ok (.value (.pointer (some ⟨w.heap.size, 0, none⟩))) (w.alloc Z)) ∧ (i = n → Z = Z1) ∧ (i = n + 1 → Z = Z2) := by
            rcases hi2 with rfl | rfl
            · exact ⟨Z1, h1 o (by simpa using ho), fun _ => rfl, fun h => by omega⟩
            · exact ⟨Z2, h2 o (by simpa using ho), fun h => by omega, fun _ => rfl⟩
          obtain ⟨Z, hr, hZ1, hZ2⟩ := hrun
          have hwant : Region.wanted o (yielded l.toArray (fillF l.toArray (V b1 b2) L a).tmps) = true := by unfold Region.wanted; rw [hg]
          unfold wpOp
          simp only [ho, hwant, if_true]
          refine .inl ?_
          unfold Oper.wp
          rw [hr]
          simp only [Oper.upon]
          have hput := made i hi2 o ho L b1 b2 w1.heap.size hiL
          rw [hput]
          have hsz1 := hw.below.size
          have hb' : Below w.heap.size w (w1.alloc Z) := hw.below.alloc hsz1 _
          rcases hi2 with rfl | rfl
          · rw [if_pos rfl]
            refine ih _ (L ++ [_]) w1.heap.size b2 (w1.alloc Z) ?_ inv' hli' hLn' hLa' (by simp; omega)
            refine ⟨hb', fun _ => ⟨hsz1, by simp, by rw [← hZ1 rfl]; exact heap_alloc_last _ _⟩, fun h => ?_, fun _ h' => ?_⟩
            · obtain ⟨f1, f2, f3⟩ := hw.snd (by simpa using h)
              exact ⟨f1, by simp; omega, (Below.heap_alloc _ _ _ f2).trans f3⟩
            · obtain ⟨f1, f2, f3⟩ := hw.snd (by simpa using h')
              omega
          · rw [if_neg (by omega)]
            refine ih _ (L ++ [_]) b1 w1.heap.size (w1.alloc Z) ?_ inv' hli' hLn' hLa' (by simp; omega)
            refine ⟨hb', fun h => ?_, fun _ => ⟨hsz1, by simp, by rw [← hZ2 rfl]; exact heap_alloc_last _ _⟩, fun h _ => ?_⟩
            · obtain ⟨f1, f2, f3⟩ := hw.fst (by simpa using h)
              exact ⟨f1, by simp; omega, (Below.heap_alloc _ _ _ f2).trans f3⟩
            · obtain ⟨f1, f2, f3⟩ := hw.fst (by simpa using h)
              omega
  refine wp_region_any hm ?_
  have inv0 : HeadInv .any l.toArray (n + 2) (Array.replicate l.toArray.size false) :=
    ⟨by simp, fun j oj _ hl => (by rw [getD_replicate_false] at hl; cases hl), fun t _ ht => getD_in (by simpa using ht) (getD_replicate_false _ _)⟩
  have := key (n + 2) _ [] 0 0 w.drew ⟨(Below.refl _ _).drew, fun h => by simp at h, fun h => by simp at h, fun h => by simp at h⟩ inv0 (fun i hi => by rw [getD_replicate_false]; simp) (by simp) (by simp) (by simp)
  rw [show n + 2 + (l.toArray.size - (n + 2)) = l.toArray.size by have := R.size; omega] at this
  simpa [fillF] using this
end
end Go.Proofs.YthkhhjfldkebcaaGreatDoor
