/- Contract: Text. -/
import Derived.Test.YthkhhjfldkebcaaGreatDoorBu
import Derived.Test.YthkhhjfldkebcaaGreatDoorFu
import Derived.Test.YthkhhjfldkebcaaGreatDoorRf
import Derived.Test.YthkhhjfldkebcaaGreatDoorJ1
import Derived.Lib.VarintMem
import Derived.Lib.ItoaLen
namespace Go.Proofs.YthkhhjfldkebcaaGreatDoor
open Go.RowKit Go.Proofs Go.Shelf
attribute [local go_sem] Oper.semAt_some

/-- The bytes of a number's text. -/
def headL (a : Int) : List UInt8 := (if a < 0 then [45] else []) ++ Lib.decDigits ((sz a).toNat / 65536)
def textL (a : Int) : List UInt8 := headL a ++ (if (sz a).toNat % 65536 = 0 then [] else [46]) ++ (frac ((sz a).toNat % 65536)).map fun x => (48 + x).toUInt8

theorem IsBld.same {B b : Nat} {bs : List Value} {W W' : World} (h : IsBld B b bs W) (hk : ∀ (k : Nat) (cs : Array Value) (t : TypeId) (fz : Nat × Nat), W.heap[k]? = some (Obj.cells cs t fz) → t ≠ 29 → W'.heap[k]? = some (Obj.cells cs t fz)) : IsBld B b bs W' := by
  have one : ∀ p, Bld B b p bs W → Bld B b p bs W' := by
    rintro p ⟨hB, v, hb, ⟨hl, ho⟩, hne⟩
    refine ⟨hB, v, hk _ _ _ _ hb (by decide), ⟨hl, ?_⟩, hne⟩
    rcases ho with ho | ⟨g, cap, cur, fz, hv, hbg, hg, r⟩
    · exact .inl ho
    · exact .inr ⟨g, cap, cur, fz, hv, hbg, hk _ _ _ _ hg (by decide), r⟩
  exact h.imp (one _) (one _)
theorem IsBld.below {B b : Nat} {bs : List Value} {W W' : World} (h : IsBld B b bs W) (hb : Below W.heap.size W W') : IsBld B b bs W' :=
  h.same fun _ _ _ _ hk _ => (hb.block _ (Array.getElem?_eq_some_iff.1 hk).1).trans hk

theorem sz_lim' {a : Int} (hv : Val a) : (sz a).toNat ≤ 70368744177664 := by have := sz_le hv.1 hv.2; omega

theorem decimals_any (r : Int) (w : World) :
    Calls Tryz.prog 115 #[.int .u64 r] w fun e w' => e = .returned (.func (.func 148) #[] #[.pointer (some ⟨w.heap.size, 0, none⟩)]) ∧ w' = w.alloc (.cells #[.int .u64 r] 29) := by
  have hmf : ∀ (fn : Fn) (first cap : Array Value) (w : World), (Instr.makeFunc fn first cap).run Tryz.prog w = .ok (.func fn first cap) w := fun _ _ _ _ => rfl
  go_enter Tryz.func115, Tryz.ntmps115
  go_wp2_with fail
  go_ret
  exact ⟨rfl, rfl⟩

theorem dig_cells : ∀ (l : List Nat), (∀ x ∈ l, x ≤ 9) → l.map (fun x => Value.int .u8 ((48 + x : Nat) : Int)) = Lib.byteCells (l.map fun x => (48 + x).toUInt8)
  | [], _ => rfl
  | x :: l, h => by
    have ih := dig_cells l (fun y hy => h y (List.mem_cons_of_mem _ hy))
    have hx := h x List.mem_cons_self
    have e : ((48 + x).toUInt8).toNat = 48 + x := Lib.toUInt8_toNat (by omega)
    show Value.int .u8 ((48 + x : Nat) : Int) :: _ = Value.int .u8 (((48 + x).toUInt8).toNat : Int) :: _
    rw [e]
    exact congrArg _ ih
theorem round_end {b c : Nat} {L : List Value} {pre : List Nat} {x : Nat} {u : Value} {W0 W W' : World} (hi : IsBld b b (L ++ pre.map (fun x => Value.int .u8 ((48 + x : Nat) : Int))) W)
    (h3 : Bld b b (.pointer (some ⟨b, 0, none⟩)) ((L ++ pre.map (fun x => Value.int .u8 ((48 + x : Nat) : Int))) ++ [.int .u8 ((48 + x : Nat) : Int)]) W') (hb : Below b W0 W) (hb3 : Below b W W') (hk : Lib.OthersKept 5 (some b) W W')
    (hu : W.heap[c]? = some (.cells #[u] 29 (0, 0))) :
    KeepsOthers W W' ∧ W'.heap[c]? = W.heap[c]? ∧ IsBld b b (L ++ (pre ++ [x]).map (fun x => Value.int .u8 ((48 + x : Nat) : Int))) W' ∧ Below b W0 W' := by
  obtain ⟨p, v, hbk⟩ : ∃ p v, W.heap[b]? = some (.cells #[p, v] 134 (0, 0)) := by
    rcases hi with h | h <;> obtain ⟨_, v, hb, _⟩ := h <;> exact ⟨_, v, hb⟩
  refine ⟨⟨hb3.size, fun k o ho hno => hk k o ho ?_ ?_⟩, ?_, ?_, hb.trans hb3⟩
  · intro e; injection e with e; subst e; rw [hbk] at ho; cases ho; cases hno
  · intro c fz e; subst e; cases hno
  · rw [hk c _ hu ?_ ?_, hu]
    · intro e; injection e with e; subst e; rw [hbk] at hu; cases hu
    · intro c fz e; cases e
  · rw [List.map_append, ← List.append_assoc]; exact Or.inr h3

set_option maxRecDepth 100000 in
set_option maxHeartbeats 4000000 in
theorem Text_any (a : Int) (w : World) (hT : Lib.TabIs Tryz.prog w "internal/strconv.uint64pow10" .u64 Lib.pow10Tab) (hv : Val a) :
    Calls Tryz.prog 52 #[.int .i64 a] w fun e w' => e = .returned (.string ⟨(textL a).toArray⟩) ∧ Below w.heap.size w w' := by
  have HT := Lib.hid (Lib.tabBelow_of_tabIs hT)
  have hb1 := hv.1; have hb2 := hv.2
  obtain ⟨N, hN⟩ : ∃ N, (sz a).toNat = N := ⟨_, rfl⟩
  have hNl : N ≤ 70368744177664 := by rw [← hN]; exact sz_lim' hv
  have C1 : Hid (∀ w, Calls Tryz.prog 25 #[.int .i64 a] w fun e w' => e = .returned (.int .i64 0) ∧ Below w.heap.size w w') := fun w => by
    have := Check_any a w; unfold checkR at this; rw [if_pos hv] at this; exact this
  have C2 : Hid (∀ w, Calls Tryz.prog 63 #[.int .i64 a] w fun e w' => e = .returned (.int .u64 (N : Int)) ∧ w = w') := fun w => by
    have := size_any a w (by omega) (by omega); rw [← hN, Int.toNat_of_nonneg (sz_nn a)]; exact this
  obtain ⟨q, hq⟩ : ∃ q, N / 65536 = q := ⟨_, rfl⟩
  obtain ⟨r, hr⟩ : ∃ r, N % 65536 = r := ⟨_, rfl⟩
  have e1 : (N : Int) / 65536 = (q : Int) := by omega
  have e2 : (N : Int) % 65536 = (r : Int) := by omega
  have hq64 : q < 18446744073709551616 := by omega
  have hr1 : r < 65536 := by omega
  have HX : Hid (textL a = ((if a < 0 then [45] else []) ++ Lib.decDigits q) ++ (if r = 0 then [] else [46]) ++ (frac r).map fun x => (48 + x).toUInt8) := by show _ = _; unfold textL headL; rw [hN, hq, hr]
  clear hv hb1 hb2 hN hq hr hT
  refine (callsIn_wide (n := 8)).1 ?_
  refine callsIn_of_wp_marks Tryz.func52 rfl trivial ?_ rfl
  simp only [Tryz.ntmps52, List.size_toArray, List.length_cons, List.length_nil, Nat.reduceAdd, Nat.reduceSub, Array.replicate_succ, Array.replicate_zero, List.push_toArray, List.append_toArray, List.nil_append, List.cons_append]
  have hd20 : (Lib.decDigits q).length ≤ 20 := by
    rw [Lib.decDigits_length]; exact Lib.nDigits_le20 q hq64
  by_cases hn : a < 0
  · gi_wp2_with (first
      | (refine ⟨trivial, ?_⟩; gi_at_call 25; refine (callsIn_wide.2 (C1.out _)).mono ?_; rintro e w1 ⟨rfl, hb1⟩; have hI1 : IsBld w1.heap.size w1.heap.size (Lib.byteCells []) (w1.alloc (.cells #[.pointer none, .slice none 0 0] 134)) := Lib.IsBuilderF.of (Lib.fresh_isBuilder 134 5 w1))
      | (refine ⟨trivial, ?_⟩; gi_at_call 112; refine (callsIn_wide.2 (WriteByte_any w1.heap.size w1.heap.size _ 45 _ hI1 (by simp [Lib.byteCells]) (by simp))).mono ?_; rintro e w2 ⟨rfl, hB2, hb2, -⟩))
    have hI2 : IsBld w1.heap.size w1.heap.size (Lib.byteCells [45]) w2 := Or.inr hB2
    have hz2 := hb2.size
    simp only [World.size_alloc] at hz2
    have hz1 := hb1.size
    have hB2 : Below w.heap.size w w2 := (hb1.alloc hz1 _).trans (hb2.mono hz1)
    obtain ⟨Ls, hLs⟩ : ∃ L : List UInt8, [45] = L := ⟨_, rfl⟩
    have hsgn : (if a < 0 then [45] else []) = Ls := by rw [if_pos (by omega)]; exact hLs
    have hl1 : Ls.length ≤ 1 := by rw [← hLs]; simp
    rw [hLs] at hI2
    clear hLs hI1
    by_cases hr0 : r = 0
    · have e3 : (N : Int) % 65536 = 0 := by omega
      subst hr0
      clear e2
      gi_wp2_with (first
        | (refine ⟨trivial, ?_⟩; gi_at_call 63; refine (callsIn_wide.2 (C2.out _)).mono ?_; rintro e w' ⟨rfl, rfl⟩)
        | (refine ⟨trivial, ?_⟩; gi_at_call 114; refine (callsIn_wide.2 (FormatUint_any q hq64 _ (HT.out _ hB2))).mono ?_; rintro e w3 ⟨rfl, k, os, hw3⟩; have hb3 : Below w2.heap.size w2 w3 := (by rw [hw3]; exact Lib.below_grow _ _ (Nat.le_refl _) _ _); clear hw3; have hI3 := hI2.below hb3; have hz3 := hb3.size)
        | (refine ⟨trivial, ?_⟩; gi_at_call 113; refine (callsIn_wide.2 (WriteString_any w1.heap.size w1.heap.size _ ⟨(Lib.decDigits q).toArray⟩ _ hI3 (by rw [Lib.byteCells_length]; show _ + (Lib.decDigits q).toArray.size ≤ _; rw [List.size_toArray]; omega) (by omega))).mono ?_; rintro e w4 ⟨rfl, hB4, hb4, -⟩; have hI4 : IsBld w1.heap.size w1.heap.size (Lib.byteCells (Ls ++ Lib.decDigits q)) w4 := (by rw [Lib.byteCells_append]; exact Or.inr hB4); have hz4 := hb4.size)
        | (refine ⟨trivial, ?_⟩; gi_at_call 115; refine (callsIn_wide.2 (decimals_any _ _)).mono ?_; rintro e w' ⟨rfl, rfl⟩))
      have B4 : Below w.heap.size w w4 := (hB2.trans (hb3.mono hB2.size)).trans (hb4.mono hz1)
      have hbs : w1.heap.size < w4.heap.size := by omega
      refine range_dec (n := 8) (n0 := w1.heap.size) (c := w4.heap.size) (by decide) rfl rfl 0 (by decide) (by omega) (World.alloc_heap_new _ _)
        (fun pre W => IsBld w1.heap.size w1.heap.size (Lib.byteCells (Ls ++ Lib.decDigits q) ++ pre.map (fun x => Value.int .u8 ((48 + x : Nat) : Int))) W ∧ Below w1.heap.size (w4.alloc (.cells #[.int .u64 0] 29)) W)
        (fun s W W' h hk => ⟨h.1.same hk.2, h.2.trans hk.1⟩) ⟨by simpa using hI4.below ((Below.refl _ _).alloc (Nat.le_refl _) _), Below.refl _ _⟩ ?_ ?_
      · apply Exists.intro
        refine ⟨?_, ?_⟩
        · intro l x W K hK
          gi_wp2
          exact hK
        · rintro l pre x W ⟨hi, hb⟩ hlen ⟨u, hu⟩
          have hzb := hb.size
          simp only [World.size_alloc] at hzb
          gi_wp2_with (refine ⟨trivial, ?_⟩; gi_at_call 112; refine (CallsIn.inRound l (callsIn_wide.2 (WriteByte_any w1.heap.size w1.heap.size _ _ _ hi (by rw [List.length_append, Lib.byteCells_length, List.length_map]; simp; omega) (by omega)))).mono ?_; rintro e W' ⟨rfl, h3, hb3', hk3⟩)
          exact round_end hi h3 hb hb3' hk3 hu
      · rintro D W ⟨hi, hb⟩ hK hD
        have hzb := hb.size
        simp only [World.size_alloc] at hzb hD
        rw [dig_cells (frac 0) (fun x hx => fr_dig 16 0 x (by decide) hx), ← Lib.byteCells_append] at hi
        obtain ⟨T, hTt⟩ : ∃ T, (Ls ++ Lib.decDigits q) ++ (frac 0).map (fun x => (48 + x).toUInt8) = T := ⟨_, rfl⟩
        rw [hTt] at hi
        gi_wp2_with (refine ⟨trivial, ?_⟩; gi_at_call 116; refine (callsIn_wide.2 (Tryz.Builder_String_any_k w1.heap.size w1.heap.size _ _ hi (by omega))).mono ?_; rintro e W' ⟨rfl, h3, hb3', hk3⟩)
        have hK' : W'.heap[D]? = some (.deferred (some [])) := hk3 D _ hK (by intro e; injection e with e; omega) (by intro c fz e; cases e)
        refine ⟨by simp, .inl ⟨_, _, rfl, run_takeDeferred hK', ?_⟩⟩
        refine ⟨_, results_tmp rfl _ _ _, ?_, ?_⟩
        · have hf : textL a = T := by rw [HX.out, hsgn, if_pos (by trivial), List.append_nil]; exact hTt
          rw [hf]; rfl
        · have c1 : Below w.heap.size w W' := ((B4.alloc B4.size _).trans (hb.mono hz1)).trans (hb3'.mono hz1)
          exact c1.trans ((Below.refl w.heap.size W').grown (grownBy_putObj' W' D _) c1.size (fun k e => by cases e; have := B4.size; omega))
    · have hr0' : (0 : Int) < (r : Int) := by omega
      gi_wp2_with (first
        | (refine ⟨trivial, ?_⟩; gi_at_call 63; refine (callsIn_wide.2 (C2.out _)).mono ?_; rintro e w' ⟨rfl, rfl⟩)
        | (refine ⟨trivial, ?_⟩; gi_at_call 114; refine (callsIn_wide.2 (FormatUint_any q hq64 _ (HT.out _ hB2))).mono ?_; rintro e w3 ⟨rfl, k, os, hw3⟩; have hb3 : Below w2.heap.size w2 w3 := (by rw [hw3]; exact Lib.below_grow _ _ (Nat.le_refl _) _ _); clear hw3; have hI3 := hI2.below hb3; have hz3 := hb3.size)
        | (refine ⟨trivial, ?_⟩; gi_at_call 113; refine (callsIn_wide.2 (WriteString_any w1.heap.size w1.heap.size _ ⟨(Lib.decDigits q).toArray⟩ _ hI3 (by rw [Lib.byteCells_length]; show _ + (Lib.decDigits q).toArray.size ≤ _; rw [List.size_toArray]; omega) (by omega))).mono ?_; rintro e w4 ⟨rfl, hB4, hb4, -⟩; have hI4 : IsBld w1.heap.size w1.heap.size (Lib.byteCells (Ls ++ Lib.decDigits q)) w4 := (by rw [Lib.byteCells_append]; exact Or.inr hB4); have hz4 := hb4.size)
        | (refine ⟨trivial, ?_⟩; gi_at_call 112; refine (callsIn_wide.2 (WriteByte_any w1.heap.size w1.heap.size _ 46 _ hI4 (by rw [Lib.byteCells_length, List.length_append]; omega) (by omega))).mono ?_; rintro e w5 ⟨rfl, hB5', hb5, -⟩; have hI5 : IsBld w1.heap.size w1.heap.size (Lib.byteCells ((Ls ++ Lib.decDigits q) ++ [46])) w5 := (by rw [Lib.byteCells_append]; exact Or.inr hB5'); have hz5 := hb5.size)
        | (refine ⟨trivial, ?_⟩; gi_at_call 115; refine (callsIn_wide.2 (decimals_any (r : Int) _)).mono ?_; rintro e w' ⟨rfl, rfl⟩))
      have B4 : Below w.heap.size w w4 := (hB2.trans (hb3.mono hB2.size)).trans (hb4.mono hz1)
      have B5 : Below w.heap.size w w5 := B4.trans (hb5.mono hz1)
      have hbs : w1.heap.size < w5.heap.size := by omega
      refine range_dec (n := 8) (n0 := w1.heap.size) (c := w5.heap.size) (by decide) rfl rfl r hr1 (by omega) (World.alloc_heap_new _ _)
        (fun pre W => IsBld w1.heap.size w1.heap.size (Lib.byteCells ((Ls ++ Lib.decDigits q) ++ [46]) ++ pre.map (fun x => Value.int .u8 ((48 + x : Nat) : Int))) W ∧ Below w1.heap.size (w5.alloc (.cells #[.int .u64 r] 29)) W)
        (fun s W W' h hk => ⟨h.1.same hk.2, h.2.trans hk.1⟩) ⟨by simpa using hI5.below ((Below.refl _ _).alloc (Nat.le_refl _) _), Below.refl _ _⟩ ?_ ?_
      · apply Exists.intro
        refine ⟨?_, ?_⟩
        · intro l x W K hK
          gi_wp2
          exact hK
        · rintro l pre x W ⟨hi, hb⟩ hlen ⟨u, hu⟩
          have hzb := hb.size
          simp only [World.size_alloc] at hzb
          gi_wp2_with (refine ⟨trivial, ?_⟩; gi_at_call 112; refine (CallsIn.inRound l (callsIn_wide.2 (WriteByte_any w1.heap.size w1.heap.size _ _ _ hi (by rw [List.length_append, Lib.byteCells_length, List.length_map]; simp; omega) (by omega)))).mono ?_; rintro e W' ⟨rfl, h3, hb3', hk3⟩)
          exact round_end hi h3 hb hb3' hk3 hu
      · rintro D W ⟨hi, hb⟩ hK hD
        have hzb := hb.size
        simp only [World.size_alloc] at hzb hD
        rw [dig_cells (frac r) (fun x hx => fr_dig 16 r x hr1 hx), ← Lib.byteCells_append] at hi
        obtain ⟨T, hTt⟩ : ∃ T, ((Ls ++ Lib.decDigits q) ++ [46]) ++ (frac r).map (fun x => (48 + x).toUInt8) = T := ⟨_, rfl⟩
        rw [hTt] at hi
        gi_wp2_with (refine ⟨trivial, ?_⟩; gi_at_call 116; refine (callsIn_wide.2 (Tryz.Builder_String_any_k w1.heap.size w1.heap.size _ _ hi (by omega))).mono ?_; rintro e W' ⟨rfl, h3, hb3', hk3⟩)
        have hK' : W'.heap[D]? = some (.deferred (some [])) := hk3 D _ hK (by intro e; injection e with e; omega) (by intro c fz e; cases e)
        refine ⟨by simp, .inl ⟨_, _, rfl, run_takeDeferred hK', ?_⟩⟩
        refine ⟨_, results_tmp rfl _ _ _, ?_, ?_⟩
        · have hf : textL a = T := by rw [HX.out, hsgn, if_neg (by omega)]; exact hTt
          rw [hf]; rfl
        · have c1 : Below w.heap.size w W' := ((B5.alloc B5.size _).trans (hb.mono hz1)).trans (hb3'.mono hz1)
          exact c1.trans ((Below.refl w.heap.size W').grown (grownBy_putObj' W' D _) c1.size (fun k e => by cases e; have := B5.size; omega))
  · gi_wp2_with (refine ⟨trivial, ?_⟩; gi_at_call 25; refine (callsIn_wide.2 (C1.out _)).mono ?_; rintro e w1 ⟨rfl, hb1⟩; have hI1 : IsBld w1.heap.size w1.heap.size (Lib.byteCells []) (w1.alloc (.cells #[.pointer none, .slice none 0 0] 134)) := Lib.IsBuilderF.of (Lib.fresh_isBuilder 134 5 w1))
    have hI2 := hI1
    have hz1 := hb1.size
    have hB2 : Below w.heap.size w (w1.alloc (.cells #[.pointer none, .slice none 0 0] 134)) := hb1.alloc hz1 _
    have hz2 : w1.heap.size + 1 ≤ (w1.alloc (.cells #[.pointer none, .slice none 0 0] 134)).heap.size := by simp
    obtain ⟨Ls, hLs⟩ : ∃ L : List UInt8, [] = L := ⟨_, rfl⟩
    obtain ⟨w2, hw2⟩ : ∃ W, w1.alloc (.cells #[.pointer none, .slice none 0 0] 134) = W := ⟨_, rfl⟩
    rw [hw2] at hI2 hB2 hz2 ⊢
    clear hw2
    have hsgn : (if a < 0 then [45] else []) = Ls := by rw [if_neg (by omega)]; exact hLs
    have hl1 : Ls.length ≤ 1 := by rw [← hLs]; simp
    rw [hLs] at hI2
    clear hLs hI1
    by_cases hr0 : r = 0
    · have e3 : (N : Int) % 65536 = 0 := by omega
      subst hr0
      clear e2
      gi_wp2_with (first
        | (refine ⟨trivial, ?_⟩; gi_at_call 63; refine (callsIn_wide.2 (C2.out _)).mono ?_; rintro e w' ⟨rfl, rfl⟩)
        | (refine ⟨trivial, ?_⟩; gi_at_call 114; refine (callsIn_wide.2 (FormatUint_any q hq64 _ (HT.out _ hB2))).mono ?_; rintro e w3 ⟨rfl, k, os, hw3⟩; have hb3 : Below w2.heap.size w2 w3 := (by rw [hw3]; exact Lib.below_grow _ _ (Nat.le_refl _) _ _); clear hw3; have hI3 := hI2.below hb3; have hz3 := hb3.size)
        | (refine ⟨trivial, ?_⟩; gi_at_call 113; refine (callsIn_wide.2 (WriteString_any w1.heap.size w1.heap.size _ ⟨(Lib.decDigits q).toArray⟩ _ hI3 (by rw [Lib.byteCells_length]; show _ + (Lib.decDigits q).toArray.size ≤ _; rw [List.size_toArray]; omega) (by omega))).mono ?_; rintro e w4 ⟨rfl, hB4, hb4, -⟩; have hI4 : IsBld w1.heap.size w1.heap.size (Lib.byteCells (Ls ++ Lib.decDigits q)) w4 := (by rw [Lib.byteCells_append]; exact Or.inr hB4); have hz4 := hb4.size)
        | (refine ⟨trivial, ?_⟩; gi_at_call 115; refine (callsIn_wide.2 (decimals_any _ _)).mono ?_; rintro e w' ⟨rfl, rfl⟩))
      have B4 : Below w.heap.size w w4 := (hB2.trans (hb3.mono hB2.size)).trans (hb4.mono hz1)
      have hbs : w1.heap.size < w4.heap.size := by omega
      refine range_dec (n := 8) (n0 := w1.heap.size) (c := w4.heap.size) (by decide) rfl rfl 0 (by decide) (by omega) (World.alloc_heap_new _ _)
        (fun pre W => IsBld w1.heap.size w1.heap.size (Lib.byteCells (Ls ++ Lib.decDigits q) ++ pre.map (fun x => Value.int .u8 ((48 + x : Nat) : Int))) W ∧ Below w1.heap.size (w4.alloc (.cells #[.int .u64 0] 29)) W)
        (fun s W W' h hk => ⟨h.1.same hk.2, h.2.trans hk.1⟩) ⟨by simpa using hI4.below ((Below.refl _ _).alloc (Nat.le_refl _) _), Below.refl _ _⟩ ?_ ?_
      · apply Exists.intro
        refine ⟨?_, ?_⟩
        · intro l x W K hK
          gi_wp2
          exact hK
        · rintro l pre x W ⟨hi, hb⟩ hlen ⟨u, hu⟩
          have hzb := hb.size
          simp only [World.size_alloc] at hzb
          gi_wp2_with (refine ⟨trivial, ?_⟩; gi_at_call 112; refine (CallsIn.inRound l (callsIn_wide.2 (WriteByte_any w1.heap.size w1.heap.size _ _ _ hi (by rw [List.length_append, Lib.byteCells_length, List.length_map]; simp; omega) (by omega)))).mono ?_; rintro e W' ⟨rfl, h3, hb3', hk3⟩)
          exact round_end hi h3 hb hb3' hk3 hu
      · rintro D W ⟨hi, hb⟩ hK hD
        have hzb := hb.size
        simp only [World.size_alloc] at hzb hD
        rw [dig_cells (frac 0) (fun x hx => fr_dig 16 0 x (by decide) hx), ← Lib.byteCells_append] at hi
        obtain ⟨T, hTt⟩ : ∃ T, (Ls ++ Lib.decDigits q) ++ (frac 0).map (fun x => (48 + x).toUInt8) = T := ⟨_, rfl⟩
        rw [hTt] at hi
        gi_wp2_with (refine ⟨trivial, ?_⟩; gi_at_call 116; refine (callsIn_wide.2 (Tryz.Builder_String_any_k w1.heap.size w1.heap.size _ _ hi (by omega))).mono ?_; rintro e W' ⟨rfl, h3, hb3', hk3⟩)
        have hK' : W'.heap[D]? = some (.deferred (some [])) := hk3 D _ hK (by intro e; injection e with e; omega) (by intro c fz e; cases e)
        refine ⟨by simp, .inl ⟨_, _, rfl, run_takeDeferred hK', ?_⟩⟩
        refine ⟨_, results_tmp rfl _ _ _, ?_, ?_⟩
        · have hf : textL a = T := by rw [HX.out, hsgn, if_pos (by trivial), List.append_nil]; exact hTt
          rw [hf]; rfl
        · have c1 : Below w.heap.size w W' := ((B4.alloc B4.size _).trans (hb.mono hz1)).trans (hb3'.mono hz1)
          exact c1.trans ((Below.refl w.heap.size W').grown (grownBy_putObj' W' D _) c1.size (fun k e => by cases e; have := B4.size; omega))
    · have hr0' : (0 : Int) < (r : Int) := by omega
      gi_wp2_with (first
        | (refine ⟨trivial, ?_⟩; gi_at_call 63; refine (callsIn_wide.2 (C2.out _)).mono ?_; rintro e w' ⟨rfl, rfl⟩)
        | (refine ⟨trivial, ?_⟩; gi_at_call 114; refine (callsIn_wide.2 (FormatUint_any q hq64 _ (HT.out _ hB2))).mono ?_; rintro e w3 ⟨rfl, k, os, hw3⟩; have hb3 : Below w2.heap.size w2 w3 := (by rw [hw3]; exact Lib.below_grow _ _ (Nat.le_refl _) _ _); clear hw3; have hI3 := hI2.below hb3; have hz3 := hb3.size)
        | (refine ⟨trivial, ?_⟩; gi_at_call 113; refine (callsIn_wide.2 (WriteString_any w1.heap.size w1.heap.size _ ⟨(Lib.decDigits q).toArray⟩ _ hI3 (by rw [Lib.byteCells_length]; show _ + (Lib.decDigits q).toArray.size ≤ _; rw [List.size_toArray]; omega) (by omega))).mono ?_; rintro e w4 ⟨rfl, hB4, hb4, -⟩; have hI4 : IsBld w1.heap.size w1.heap.size (Lib.byteCells (Ls ++ Lib.decDigits q)) w4 := (by rw [Lib.byteCells_append]; exact Or.inr hB4); have hz4 := hb4.size)
        | (refine ⟨trivial, ?_⟩; gi_at_call 112; refine (callsIn_wide.2 (WriteByte_any w1.heap.size w1.heap.size _ 46 _ hI4 (by rw [Lib.byteCells_length, List.length_append]; omega) (by omega))).mono ?_; rintro e w5 ⟨rfl, hB5', hb5, -⟩; have hI5 : IsBld w1.heap.size w1.heap.size (Lib.byteCells ((Ls ++ Lib.decDigits q) ++ [46])) w5 := (by rw [Lib.byteCells_append]; exact Or.inr hB5'); have hz5 := hb5.size)
        | (refine ⟨trivial, ?_⟩; gi_at_call 115; refine (callsIn_wide.2 (decimals_any (r : Int) _)).mono ?_; rintro e w' ⟨rfl, rfl⟩))
      have B4 : Below w.heap.size w w4 := (hB2.trans (hb3.mono hB2.size)).trans (hb4.mono hz1)
      have B5 : Below w.heap.size w w5 := B4.trans (hb5.mono hz1)
      have hbs : w1.heap.size < w5.heap.size := by omega
      refine range_dec (n := 8) (n0 := w1.heap.size) (c := w5.heap.size) (by decide) rfl rfl r hr1 (by omega) (World.alloc_heap_new _ _)
        (fun pre W => IsBld w1.heap.size w1.heap.size (Lib.byteCells ((Ls ++ Lib.decDigits q) ++ [46]) ++ pre.map (fun x => Value.int .u8 ((48 + x : Nat) : Int))) W ∧ Below w1.heap.size (w5.alloc (.cells #[.int .u64 r] 29)) W)
        (fun s W W' h hk => ⟨h.1.same hk.2, h.2.trans hk.1⟩) ⟨by simpa using hI5.below ((Below.refl _ _).alloc (Nat.le_refl _) _), Below.refl _ _⟩ ?_ ?_
      · apply Exists.intro
        refine ⟨?_, ?_⟩
        · intro l x W K hK
          gi_wp2
          exact hK
        · rintro l pre x W ⟨hi, hb⟩ hlen ⟨u, hu⟩
          have hzb := hb.size
          simp only [World.size_alloc] at hzb
          gi_wp2_with (refine ⟨trivial, ?_⟩; gi_at_call 112; refine (CallsIn.inRound l (callsIn_wide.2 (WriteByte_any w1.heap.size w1.heap.size _ _ _ hi (by rw [List.length_append, Lib.byteCells_length, List.length_map]; simp; omega) (by omega)))).mono ?_; rintro e W' ⟨rfl, h3, hb3', hk3⟩)
          exact round_end hi h3 hb hb3' hk3 hu
      · rintro D W ⟨hi, hb⟩ hK hD
        have hzb := hb.size
        simp only [World.size_alloc] at hzb hD
        rw [dig_cells (frac r) (fun x hx => fr_dig 16 r x hr1 hx), ← Lib.byteCells_append] at hi
        obtain ⟨T, hTt⟩ : ∃ T, ((Ls ++ Lib.decDigits q) ++ [46]) ++ (frac r).map (fun x => (48 + x).toUInt8) = T := ⟨_, rfl⟩
        rw [hTt] at hi
        gi_wp2_with (refine ⟨trivial, ?_⟩; gi_at_call 116; refine (callsIn_wide.2 (Tryz.Builder_String_any_k w1.heap.size w1.heap.size _ _ hi (by omega))).mono ?_; rintro e W' ⟨rfl, h3, hb3', hk3⟩)
        have hK' : W'.heap[D]? = some (.deferred (some [])) := hk3 D _ hK (by intro e; injection e with e; omega) (by intro c fz e; cases e)
        refine ⟨by simp, .inl ⟨_, _, rfl, run_takeDeferred hK', ?_⟩⟩
        refine ⟨_, results_tmp rfl _ _ _, ?_, ?_⟩
        · have hf : textL a = T := by rw [HX.out, hsgn, if_neg (by omega)]; exact hTt
          rw [hf]; rfl
        · have c1 : Below w.heap.size w W' := ((B5.alloc B5.size _).trans (hb.mono hz1)).trans (hb3'.mono hz1)
          exact c1.trans ((Below.refl w.heap.size W').grown (grownBy_putObj' W' D _) c1.size (fun k e => by cases e; have := B5.size; omega))
end Go.Proofs.YthkhhjfldkebcaaGreatDoor
