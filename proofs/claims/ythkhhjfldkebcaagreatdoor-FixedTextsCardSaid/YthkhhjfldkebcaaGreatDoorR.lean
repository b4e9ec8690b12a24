/- A region that draws its order, in which operations end the work by a panic: whatever the order, some of them is met, and all that is carried out ahead of it is quiet. Over any program. -/
import Derived.Test.YthkhhjfldkebcaaGreatDoorQ
namespace Go.Proofs.YthkhhjfldkebcaaGreatDoor
open Go.RowKit

section
variable {P : Program} {ops : Array Oper} {C : World → Prop}

/-- The frame behind some operations, each of which has left its value. -/
def fillF (ops : Array Oper) (val : Nat → Value) (l : List Nat) (a : Act) : Act :=
  l.foldl (fun a i => match ops[i]? with | some o => a.put o.dst (val i) | none => a) a

theorem put_size (a : Act) (d : Option Tmp) (v : Value) : (a.put d v).tmps.size = a.tmps.size := by cases d <;> simp [Act.put]
theorem put_defers' (a : Act) (d : Option Tmp) (v : Value) : (a.put d v).defers = a.defers := by cases d <;> rfl
theorem fillF_defers (val : Nat → Value) : ∀ (l : List Nat) (a : Act), (fillF ops val l a).defers = a.defers
  | [], _ => rfl
  | i :: l, a => by
    simp only [fillF, List.foldl_cons]
    refine (fillF_defers val l _).trans ?_
    cases ops[i]? <;> simp [put_defers']
theorem fillF_congr {val val' : Nat → Value} : ∀ (l : List Nat) (a : Act), (∀ i ∈ l, val i = val' i) → fillF ops val l a = fillF ops val' l a
  | [], _, _ => rfl
  | i :: l, a, h => by
    simp only [fillF, List.foldl_cons]
    rw [h i (by simp)]
    exact fillF_congr l _ fun j hj => h j (by simp [hj])
theorem fillF_none (val : Nat → Value) (t : Tmp) : ∀ (l : List Nat) (a : Act), (∀ i ∈ l, ∀ o, ops[i]? = some o → o.dst ≠ some t) → (fillF ops val l a).tmps[t]? = a.tmps[t]?
  | [], _, _ => rfl
  | i :: l, a, h => by
    simp only [fillF, List.foldl_cons]
    refine (fillF_none val t l _ fun j hj => h j (by simp [hj])).trans ?_
    cases ho : ops[i]? with
    | none => rfl
    | some o =>
      have := h i (by simp) o ho
      cases hd : o.dst with
      | none => simp [hd, Act.put]
      | some d =>
        have hne : d ≠ t := fun e => this (by rw [hd, e])
        simp [hd, Act.put, Array.getElem?_setIfInBounds_ne hne]
theorem fillF_some (val : Nat → Value) (t : Tmp) (i : Nat) (o : Oper) (ho : ops[i]? = some o) (hd : o.dst = some t) : ∀ (l : List Nat) (a : Act), i ∈ l →
    (∀ j ∈ l, ∀ oj, ops[j]? = some oj → oj.dst = some t → j = i) → (fillF ops val l a).tmps[t]? = if t < a.tmps.size then some (val i) else none
  | [], _, h, _ => by simp at h
  | j :: l, a, h, hu => by
    simp only [fillF, List.foldl_cons]
    by_cases hil : i ∈ l
    · refine (fillF_some val t i o ho hd l _ hil fun k hk => hu k (by simp [hk])).trans ?_
      have : (match ops[j]? with | some o => a.put o.dst (val j) | none => a).tmps.size = a.tmps.size := by cases ops[j]? <;> simp [put_size]
      rw [this]
    · have hji : j = i := by simp [hil] at h; exact h.symm
      subst hji
      refine (fillF_none val t l _ fun k hk ok hok e => hil (by have := hu k (by simp [hk]) ok hok e; rwa [this] at hk)).trans ?_
      simp only [ho, hd, Act.put]
      rw [Array.getElem?_setIfInBounds]
      simp

theorem wanted_same (o : Oper) (a a' : Act) (h : ∀ t ∈ o.looksAt ops, a'.tmps[t]? = a.tmps[t]?) : Region.wanted o (yielded ops a'.tmps) = Region.wanted o (yielded ops a.tmps) := by
  unfold Region.wanted
  cases hg : o.guard with
  | none => rfl
  | some gw =>
    obtain ⟨g, want⟩ := gw
    have hy : yielded ops a'.tmps g = yielded ops a.tmps g := by
      unfold yielded
      cases ht : (ops[g]?).bind (·.dst) with
      | none => rfl
      | some t =>
        have := h t (by simp [Oper.looksAt, hg, ht])
        simp only [Option.bind_some]
        rw [this]
    simp only [hy]
theorem exec_same (o : Oper) (hs : ∀ cs b, o.op ≠ .select cs b) (a a' : Act) (h : ∀ t ∈ o.looksAt ops, a'.tmps[t]? = a.tmps[t]?) : execOp a'.eval o = execOp a.eval o :=
  execOp_congr o hs fun x hx => by
    cases x with
    | tmp t =>
      have := h t (List.mem_append_left _ (List.mem_filterMap.2 ⟨.tmp t, by simpa using hx, rfl⟩))
      simp only [Act.eval, Array.getD_eq_getD_getElem?, this]
    | _ => rfl

/-- In state 'a', in every world of the class, the operation calls a function that ends by a panic which the rest admits. -/
def PanicsIn (P : Program) (ops : Array Oper) (C : World → Prop) (ds : List Deferred) (Q : Exit → Act → World → Prop) (o : Oper) (a : Act) : Prop :=
  Region.wanted o (yielded ops a.tmps) = true ∧ ∀ w, C w → ∃ f args, (execOp a.eval o).run P w = .ok (.enter f args) w ∧
    Calls P f args w fun e w'' => ∃ ch, e = .panicked ch ∧ ∀ a' : Act, a'.defers = ds → Q (.panic ch) a' w''
theorem PanicsIn.wpOp {ds : List Deferred} {Q : Exit → Act → World → Prop} {i : Nat} {o : Oper} {a : Act} (hi : ops[i]? = some o) (h : PanicsIn P ops C ds Q o a) (ha : a.defers = ds) {w : World} (hw : C w) (K : Act → World → Prop) : wpOp P ops Q i K a w := by
  obtain ⟨h1, h2⟩ := h
  obtain ⟨f, args, hr, hc⟩ := h2 w hw
  unfold Go.wpOp
  simp only [hi, h1, if_true]
  refine .inl ?_
  unfold Oper.wp
  rw [hr]
  simp only [Oper.upon]
  exact hc.mono fun e w'' ⟨ch, he, hq⟩ => by subst he; exact hq a ha

theorem extract {Q : Act → Prop} : ∀ (l : List Nat) (a : Act), (∀ i ∈ l, i < ops.size) → l.Nodup → wpQuiet P ops C Q (l.filterMap (ops[·]?)) a →
    ∃ val : Nat → Value, (∀ pre i post, l = pre ++ i :: post → ∀ o, ops[i]? = some o → YieldsIn P ops C o (val i) (fillF ops val pre a)) ∧ Q (fillF ops val l a)
  | [], a, _, _, h => ⟨fun _ => undef, fun pre i post e => by simp at e, h⟩
  | i :: l, a, hb, hn, h => by
    obtain ⟨o, ho⟩ : ∃ o, ops[i]? = some o := ⟨_, Array.getElem?_eq_getElem (hb i (by simp))⟩
    have hil : i ∉ l := (List.nodup_cons.1 hn).1
    rw [List.filterMap_cons, ho] at h
    have hq : qOp P ops C i (wpQuiet P ops C Q (l.filterMap (ops[·]?))) a := by unfold qOp; simp only [ho]; exact h
    obtain ⟨v, hy, hk⟩ := yieldsIn_of_qOp ho hq
    obtain ⟨val, h1, h2⟩ := extract l (a.put o.dst v) (fun j hj => hb j (by simp [hj])) (List.nodup_cons.1 hn).2 hk
    have hval : ∀ (l' : List Nat), (∀ j ∈ l', j ∈ l) → ∀ b, fillF ops (fun k => if k = i then v else val k) l' b = fillF ops val l' b := fun l' hl' b =>
      fillF_congr l' b fun j hj => by rw [if_neg (fun e => hil (by rw [← e]; exact hl' j hj))]
    refine ⟨fun k => if k = i then v else val k, ?_, ?_⟩
    · intro pre k post e o' ho'
      cases pre with
      | nil =>
        simp only [List.nil_append, List.cons.injEq] at e
        obtain ⟨rfl, rfl⟩ := e
        have : o' = o := Option.some.inj (ho'.symm.trans ho)
        subst this
        simpa [fillF] using hy
      | cons p pre =>
        simp only [List.cons_append, List.cons.injEq] at e
        obtain ⟨rfl, rfl⟩ := e
        have hki : k ≠ i := fun e => hil (by subst e; simp)
        have := h1 pre k post rfl o' ho'
        simp only [if_neg hki]
        have e2 : fillF ops (fun k => if k = i then v else val k) (i :: pre) a = fillF ops (fun k => if k = i then v else val k) pre (a.put o.dst v) := by simp [fillF, ho]
        rw [e2, hval pre (fun j hj => by simp [hj])]
        exact this
    · have e2 : fillF ops (fun k => if k = i then v else val k) (i :: l) a = fillF ops (fun k => if k = i then v else val k) l (a.put o.dst v) := by simp [fillF, ho]
      rw [e2, hval l (fun _ h => h)]
      exact h2

/-- What is looked at of the region's text: 'al': what is quiet, in the text's order; 'pan': what ends the work; 'ds': what waits for that. -/
def endsB (ops : Array Oper) (al pan ds : List Nat) : Bool :=
  Region.noSelect ops && !pan.isEmpty && (al ++ pan).all (· < ops.size) && al.all (fun i => !pan.contains i && !ds.contains i) && pan.all (fun i => !ds.contains i) &&
  (List.range ops.size).all (fun i => al.contains i || pan.contains i || ds.contains i) &&
  ds.all (fun i => ((ops[i]?).map fun o => o.after.any fun e => Region.binds .any e && (pan.contains e.on || ds.contains e.on)).getD false) &&
  (al ++ pan).all (fun i => ((ops[i]?).map fun o => o.after.all (fun e => !Region.binds .any e || (decide (e.on < i) && al.contains e.on)) &&
    al.all (fun j => ((ops[j]?).map fun oj => match oj.dst with | none => true | some t => !(o.looksAt ops).contains t || o.after.any (fun e => Region.binds .any e && e.on == j)).getD false)).getD false) &&
  al.all (fun i => al.all fun j => i == j || ((ops[i]?).bind (·.dst)).isNone || (ops[i]?).bind (·.dst) != (ops[j]?).bind (·.dst)) &&
  decide (al.Pairwise (· < ·))

structure EndsR (ops : Array Oper) (al pan ds : List Nat) : Prop where
  nosel : Region.noSelect ops = true
  nonempty : pan ≠ []
  bound : ∀ i, i ∈ al ∨ i ∈ pan → i < ops.size
  apart : ∀ i ∈ al, i ∉ pan ∧ i ∉ ds
  apart2 : ∀ i ∈ pan, i ∉ ds
  all : ∀ i, i < ops.size → i ∈ al ∨ i ∈ pan ∨ i ∈ ds
  dead : ∀ i ∈ ds, ∃ o, ops[i]? = some o ∧ ∃ e ∈ o.after, Region.binds .any e = true ∧ (e.on ∈ pan ∨ e.on ∈ ds)
  deps : ∀ i, i ∈ al ∨ i ∈ pan → ∀ o, ops[i]? = some o → ∀ e ∈ o.after, Region.binds .any e = true → e.on < i ∧ e.on ∈ al
  looks : ∀ i, i ∈ al ∨ i ∈ pan → ∀ o, ops[i]? = some o → ∀ j ∈ al, ∀ oj t, ops[j]? = some oj → oj.dst = some t → t ∈ o.looksAt ops → ∃ e ∈ o.after, Region.binds .any e = true ∧ e.on = j
  single : ∀ i ∈ al, ∀ j ∈ al, ∀ oi oj t, ops[i]? = some oi → ops[j]? = some oj → oi.dst = some t → oj.dst = some t → i = j
  sorted : al.Pairwise (· < ·)

theorem ends_of {al pan ds : List Nat} (h : endsB ops al pan ds = true) : EndsR ops al pan ds := by
  simp only [endsB, Bool.and_eq_true, decide_eq_true_eq, List.all_eq_true, List.mem_append] at h
  obtain ⟨⟨⟨⟨⟨⟨⟨⟨⟨h1, h2⟩, h3⟩, h4⟩, h5⟩, h6⟩, h7⟩, h8⟩, h9⟩, h10⟩ := h
  refine ⟨h1, ?_, ?_, ?_, ?_, ?_, ?_, ?_, ?_, ?_, h10⟩
  · intro e; subst e; simp at h2
  · intro i hi; simpa using h3 i hi
  · intro i hi; have := h4 i hi; simp at this; exact this
  · intro i hi; have := h5 i hi; simpa using this
  · intro i hi; have := h6 i (by simpa using hi); simp [or_assoc] at this; exact this
  · intro i hi
    have := h7 i hi
    cases ho : ops[i]? with
    | none => simp [ho] at this
    | some o =>
      simp only [ho, Option.map_some, Option.getD_some, Array.any_eq_true', Bool.and_eq_true, Bool.or_eq_true, List.contains_iff_mem] at this
      exact ⟨o, rfl, this⟩
  · intro i hi o ho e he hb
    have := h8 i hi
    simp only [ho, Option.map_some, Option.getD_some, Bool.and_eq_true] at this
    have := Array.all_eq_true'.1 this.1 e he
    simp only [hb, Bool.not_true, Bool.false_or, Bool.and_eq_true, decide_eq_true_eq, List.contains_iff_mem] at this
    exact this
  · intro i hi o ho j hj oj t hoj hd ht
    have := h8 i hi
    simp only [ho, Option.map_some, Option.getD_some, Bool.and_eq_true, List.all_eq_true] at this
    have := this.2 j hj
    simp only [hoj, Option.map_some, Option.getD_some, hd, Bool.or_eq_true, Bool.not_eq_true', List.contains_eq_mem, decide_eq_false_iff_not] at this
    rcases this with h | h
    · exact absurd ht h
    · simp only [Array.any_eq_true', Bool.and_eq_true, beq_iff_eq] at h
      exact h
  · intro i hi j hj oi oj t hoi hoj hdi hdj
    have := h9 i hi j hj
    simp only [hoi, hoj, Option.bind_some, hdi, hdj, Bool.or_eq_true, beq_iff_eq] at this
    simpa using this

theorem nodup_len : ∀ (n : Nat) (l : List Nat), l.Nodup → (∀ x ∈ l, x < n) → l.length ≤ n
  | 0, l, _, h => by
    cases l with
    | nil => simp
    | cons x l => exact absurd (h x (by simp)) (by omega)
  | n + 1, l, hn, h => by
    by_cases hx : n ∈ l
    · have h1 := nodup_len n (l.erase n) (hn.erase n) (fun x hx' => by
        have a := h x (List.mem_of_mem_erase hx')
        have b : x ≠ n := fun e => by subst e; exact (List.Nodup.not_mem_erase hn) hx'
        omega)
      rw [List.length_erase_of_mem hx] at h1
      omega
    · have := nodup_len n l hn (fun x hx' => by
        have a := h x hx'
        have b : x ≠ n := fun e => hx (e ▸ hx')
        omega)
      omega

theorem minimal {p : Nat → Prop} [DecidablePred p] {n : Nat} (h : p n) : ∃ m, p m ∧ ∀ k, k < m → ¬ p k := by
  induction n using Nat.strongRecOn with
  | _ n ih =>
    by_cases hx : ∃ k, k < n ∧ p k
    · obtain ⟨k, hk, hpk⟩ := hx
      exact ih k hk hpk
    · exact ⟨n, h, fun k hk hpk => hx ⟨k, hk, hpk⟩⟩

theorem wp_region_ends {id : Nat} {Q : Exit → Act → World → Prop} {a : Act} {w : World} (al pan ds : List Nat) (hm : P.follows .mixedOrders = true) (hB : endsB ops al pan ds = true) (hC : C w.drew)
    (h : wpQuiet P ops C (fun a' => ∀ p ∈ pan, ∀ o, ops[p]? = some o → PanicsIn P ops C a.defers Q o a') (al.filterMap (ops[·]?)) a) : (Code.region id ops true).wp P Q a w := by
  have E := ends_of hB
  have hnd : al.Nodup := E.sorted.imp fun h => Nat.ne_of_lt h
  obtain ⟨val, hv, hp⟩ := extract al a (fun i hi => E.bound i (.inl hi)) hnd h
  have hsel : ∀ (j : Nat) (o : Oper) cs b, ops[j]? = some o → o.op ≠ .select cs b := Region.noSelect_spec E.nosel
  -- the frames agree wherever an operation looks
  have agree : ∀ i, i ∈ al ∨ i ∈ pan → ∀ o, ops[i]? = some o → ∀ L L' : List Nat, (∀ j ∈ L, j ∈ al) → (∀ j ∈ L', j ∈ al) →
      (∀ e ∈ o.after, Region.binds .any e = true → e.on ∈ L) → (∀ e ∈ o.after, Region.binds .any e = true → e.on ∈ L') → ∀ t ∈ o.looksAt ops, (fillF ops val L a).tmps[t]? = (fillF ops val L' a).tmps[t]? := by
    intro i hi o ho L L' hL hL' hd hd' t ht
    by_cases hx : ∃ j ∈ al, ∃ oj, ops[j]? = some oj ∧ oj.dst = some t
    · obtain ⟨j, hj, oj, hoj, hdj⟩ := hx
      obtain ⟨e, he, hb, hon⟩ := E.looks i hi o ho j hj oj t hoj hdj ht
      have hu : ∀ M : List Nat, (∀ j ∈ M, j ∈ al) → ∀ k ∈ M, ∀ ok, ops[k]? = some ok → ok.dst = some t → k = j := fun M hM k hk ok hok hdk => E.single k (hM k hk) j hj ok oj t hok hoj hdk hdj
      rw [fillF_some val t j oj hoj hdj L a (by rw [← hon]; exact hd e he hb) (hu L hL), fillF_some val t j oj hoj hdj L' a (by rw [← hon]; exact hd' e he hb) (hu L' hL')]
    · have hno : ∀ M : List Nat, (∀ j ∈ M, j ∈ al) → ∀ k ∈ M, ∀ ok, ops[k]? = some ok → ok.dst ≠ some t := fun M hM k hk ok hok hdk => hx ⟨k, hM k hk, ok, hok, hdk⟩
      rw [fillF_none val t L a (hno L hL), fillF_none val t L' a (hno L' hL')]
  -- every operation that comes up
  have yields : ∀ i ∈ al, ∀ o, ops[i]? = some o → ∀ L : List Nat, (∀ j ∈ L, j ∈ al) → (∀ e ∈ o.after, Region.binds .any e = true → e.on ∈ L) → YieldsIn P ops C o (val i) (fillF ops val L a) := by
    intro i hi o ho L hL hd
    obtain ⟨pre, post, e⟩ := List.append_of_mem hi
    have hs := E.sorted
    rw [e] at hs
    have hy := hv pre i post e o ho
    have hpre : ∀ e ∈ o.after, Region.binds .any e = true → e.on ∈ pre := by
      intro x hx hb
      obtain ⟨h1, h2⟩ := E.deps i (.inl hi) o ho x hx hb
      rw [e] at h2
      simp only [List.mem_append, List.mem_cons] at h2
      rcases h2 with h2 | h2 | h2
      · exact h2
      · omega
      · have := (List.pairwise_append.1 hs).2.1
        have := (List.pairwise_cons.1 this).1 _ h2
        omega
    have hag := agree i (.inl hi) o ho L pre hL (fun j hj => by rw [e]; simp [hj]) hd hpre
    exact hy.of_same (exec_same o (fun cs b => hsel i o cs b ho) _ _ hag) (wanted_same o _ _ hag)
  have panics : ∀ i ∈ pan, ∀ o, ops[i]? = some o → ∀ L : List Nat, (∀ j ∈ L, j ∈ al) → (∀ e ∈ o.after, Region.binds .any e = true → e.on ∈ L) → PanicsIn P ops C a.defers Q o (fillF ops val L a) := by
    intro i hi o ho L hL hd
    obtain ⟨h1, h2⟩ := hp i hi o ho
    have hag := agree i (.inr hi) o ho L al hL (fun _ h => h) hd (fun e he hb => (E.deps i (.inr hi) o ho e he hb).2)
    refine ⟨by rw [wanted_same o _ _ hag]; exact h1, ?_⟩
    rw [exec_same o (fun cs b => hsel i o cs b ho) _ _ hag]
    exact h2
  -- whatever is listed
  have key : ∀ (fuel : Nat) (listed : Array Bool) (L : List Nat) (w : World), C w → listed.size = ops.size → (∀ i, i < ops.size → (listed.getD i false = true ↔ i ∈ L)) → L.Nodup → (∀ j ∈ L, j ∈ al) → fuel + L.length = ops.size →
      wpAny P .any ops Q fuel listed (fillF ops val L a) w := by
    intro fuel
    induction fuel with
    | zero =>
      intro listed L w hw hsz hli hLn hLa hf
      exfalso
      obtain ⟨p, hpp⟩ := List.exists_mem_of_ne_nil _ E.nonempty
      have hpL : p ∉ L := fun hx => (E.apart p (hLa p hx)).1 hpp
      have h1 : (p :: L).Nodup := List.nodup_cons.2 ⟨hpL, hLn⟩
      have := nodup_len ops.size (p :: L) h1 (fun x hx => by
        simp only [List.mem_cons] at hx
        rcases hx with rfl | hx
        · exact E.bound _ (.inr hpp)
        · exact E.bound _ (.inl (hLa x hx)))
      simp at this
      omega
    | succ fuel ih =>
      intro listed L w hw hsz hli hLn hLa hf
      refine ⟨fun hnil => ?_, fun i hi => ?_⟩
      · exfalso
        obtain ⟨p, hpp⟩ := List.exists_mem_of_ne_nil _ E.nonempty
        have hpL : p ∉ L := fun hx => (E.apart p (hLa p hx)).1 hpp
        obtain ⟨m, ⟨hm1, hm2⟩, hmin⟩ := minimal (p := fun i => (i ∈ al ∨ i ∈ pan) ∧ i ∉ L) (n := p) ⟨.inr hpp, hpL⟩
        have hmb := E.bound m hm1
        have : m ∈ Region.ready .any ops listed := by
          rw [mem_ready]
          refine ⟨?_, _, Array.getElem?_eq_getElem hmb, fun e he hb => ?_⟩
          · have := hli m hmb
            have hx : listed.getD m false = false := by
              cases hh : listed.getD m false
              · rfl
              · exact absurd (this.1 hh) hm2
            simpa [Array.getD_eq_getD_getElem?, Array.getElem?_eq_getElem (show m < listed.size by omega)] using hx
          · obtain ⟨h1, h2⟩ := E.deps m hm1 _ (Array.getElem?_eq_getElem hmb) e he hb
            have : e.on ∈ L := by
              rcases Decidable.em (e.on ∈ L) with hx | hx
              · exact hx
              · exact absurd ⟨.inl h2, hx⟩ (hmin e.on h1)
            exact (hli e.on (E.bound _ (.inl h2))).2 this
        rw [hnil] at this
        cases this
      · obtain ⟨hun, o, ho, hall⟩ := mem_ready.1 hi
        have hib : i < ops.size := by
          rcases Nat.lt_or_ge i ops.size with hx | hx
          · exact hx
          · rw [Array.getElem?_eq_none hx] at ho; cases ho
        have hlisted : ∀ k, listed.getD k false = true → k ∈ L := fun k hk => by
          rcases Nat.lt_or_ge k ops.size with hx | hx
          · exact (hli k hx).1 hk
          · rw [Array.getD_eq_getD_getElem?, Array.getElem?_eq_none (by omega)] at hk; cases hk
        have hdeps : ∀ e ∈ o.after, Region.binds .any e = true → e.on ∈ L := fun e he hb => hlisted _ (hall e he hb)
        rcases E.all i hib with hia | hip | hid
        · have hy := yields i hia o ho L hLa hdeps
          refine wpOp_of_qOp (K := fun a' => a' = fillF ops val (L ++ [i]) a) hw (fun a' w' hw' ha' => ?_) (hy.qOp ho (by simp [fillF, ho]))
          subst ha'
          have hiL : i ∉ L := fun hx => by
            have := (hli i hib).2 hx
            rw [Array.getD_eq_getD_getElem?, Array.getElem?_eq_getElem (by omega)] at this hun
            simp at this hun
            rw [this] at hun; cases hun
          refine ih _ (L ++ [i]) w' hw' (by simpa using hsz) (fun k hk => ?_) (by rw [List.nodup_append]; exact ⟨hLn, by simp, fun x hx y hy => by simp at hy; subst hy; exact fun e => hiL (e ▸ hx)⟩) (fun j hj => by simp at hj; exact hj.elim (fun h => hLa j h) (fun h => h ▸ hia)) (by simp; omega)
          rw [Array.getD_eq_getD_getElem?, Array.getElem?_setIfInBounds]
          by_cases hki : i = k
          · subst hki; simp [hsz, hib]
          · rw [if_neg hki, ← Array.getD_eq_getD_getElem?, hli k hk]
            simp only [List.mem_append, List.mem_singleton]
            constructor
            · exact .inl
            · rintro (h | rfl)
              · exact h
              · exact absurd rfl hki
        · exact (panics i hip o ho L hLa hdeps).wpOp ho (fillF_defers val L a) hw _
        · obtain ⟨o', ho', e, he, hb, hx⟩ := E.dead i hid
          have : o' = o := Option.some.inj (ho'.symm.trans ho)
          subst this
          have h1 := hLa _ (hdeps e he hb)
          rcases hx with hx | hx
          · exact absurd hx (E.apart _ h1).1
          · exact absurd hx (E.apart _ h1).2
  refine wp_region_any hm ?_
  have := key ops.size (Array.replicate ops.size false) [] w.drew hC (by simp) (fun i hi => by simp [Array.getD_eq_getD_getElem?, hi]) (by simp) (by simp) (by simp)
  simpa [fillF] using this

/-- The operations that a mask lets through, and their numbers. -/
def maskSel : List Bool → List Oper → List Oper
  | true :: m, o :: l => o :: maskSel m l
  | false :: m, _ :: l => maskSel m l
  | _, _ => []
def maskIdx : List Bool → Nat → List Nat
  | true :: m, k => k :: maskIdx m (k + 1)
  | false :: m, k => maskIdx m (k + 1)
  | [], _ => []
theorem maskSel_eq : ∀ (m : List Bool) (l : List Oper) (k : Nat), m.length ≤ l.length → (∀ j, l[j]? = ops[k + j]?) → maskSel m l = (maskIdx m k).filterMap (ops[·]?)
  | [], l, k, _, _ => by cases l <;> simp [maskSel, maskIdx]
  | b :: m, [], k, h, _ => by simp at h
  | b :: m, o :: l, k, h, hl => by
    have h0 : ops[k]? = some o := by simpa using (hl 0).symm
    have ih := maskSel_eq m l (k + 1) (by simpa using h) (fun j => by have := hl (j + 1); simpa [Nat.add_assoc, Nat.add_comm 1 j] using this)
    cases b
    · simpa [maskSel, maskIdx] using ih
    · simp only [maskSel, maskIdx, List.filterMap_cons, h0]; rw [ih]

/-- The same for a region whose operations are written out: 'm': which are quiet; 'pm': which end the work. -/
theorem wp_region_ends_lit {l : List Oper} {id : Nat} {Q : Exit → Act → World → Prop} {a : Act} {w : World} (m pm : List Bool) (ds : List Nat) (hm : P.follows .mixedOrders = true)
    (hB : endsB l.toArray (maskIdx m 0) (maskIdx pm 0) ds = true) (hlen : m.length ≤ l.length) (hlen' : pm.length ≤ l.length)
    (h : wpQuiet P l.toArray (fun w' => ∃ X : BW w, w' = X.to) (fun a' => ∀ o ∈ maskSel pm l, PanicsIn P l.toArray (fun w' => ∃ X : BW w, w' = X.to) a.defers Q o a') (maskSel m l) a) : (Code.region id l.toArray true).wp P Q a w := by
  refine wp_region_ends (C := fun w' => ∃ X : BW w, w' = X.to) (maskIdx m 0) (maskIdx pm 0) ds hm hB ⟨⟨_, (Below.refl _ _).drew⟩, rfl⟩ ?_
  rw [← maskSel_eq m l 0 hlen (fun j => by simp)]
  have e := maskSel_eq (ops := l.toArray) pm l 0 hlen' (fun j => by simp)
  rw [e] at h
  have e2 : (fun a' => ∀ o ∈ (maskIdx pm 0).filterMap (l.toArray[·]?), PanicsIn P l.toArray (fun w' => ∃ X : BW w, w' = X.to) a.defers Q o a') =
      (fun a' => ∀ p ∈ maskIdx pm 0, ∀ o, l.toArray[p]? = some o → PanicsIn P l.toArray (fun w' => ∃ X : BW w, w' = X.to) a.defers Q o a') := by
    funext a'
    simp only [List.mem_filterMap, eq_iff_iff]
    exact ⟨fun h p hp o ho => h o ⟨p, hp, ho⟩, fun h o ⟨p, hp, ho⟩ => h p hp o ho⟩
  rw [e2] at h
  exact h
end
end Go.Proofs.YthkhhjfldkebcaaGreatDoor
