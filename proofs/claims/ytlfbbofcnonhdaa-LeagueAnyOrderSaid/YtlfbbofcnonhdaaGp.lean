import Derived.Test.YtlfbbofcnonhdaaSo
import Derived.Test.YtlfbbofcnonhdaaCl
/- Plain: numbers in groups, by a key. -/
namespace Go.Proofs.Ytlfbbofcnonhdaa

/-- D is l in groups of the same key, lesser keys first, each group rising. -/
structure Grp (key : Int → Int) (l : List Int) (D : List (List Int)) : Prop where
 ne : ∀ d ∈ D, d ≠ []
 asc : ∀ d ∈ D, d.Pairwise (· < ·)
 same : ∀ d ∈ D, ∀ x ∈ d, ∀ y ∈ d, key x = key y
 lt : D.Pairwise (fun d e => ∀ x ∈ d, ∀ y ∈ e, key x < key y)
 mem : ∀ x, x ∈ l ↔ ∃ d ∈ D, x ∈ d
theorem asc_eq : ∀ {a b : List Int}, a.Pairwise (· < ·) → b.Pairwise (· < ·) → (∀ x, x ∈ a ↔ x ∈ b) → a = b
 | [], [], _, _, _ => rfl
 | [], y :: b, _, _, h => by have := (h y).2 (by simp); simp at this
 | x :: a, [], _, _, h => by have := (h x).1 (by simp); simp at this
 | x :: a, y :: b, ha, hb, h => by
  rw [List.pairwise_cons] at ha hb
  have h1 := (h x).1 (by simp)
  have h2 := (h y).2 (by simp)
  rw [List.mem_cons] at h1 h2
  have e : x = y := by
   rcases h1 with e | h1
   ·exact e
   ·rcases h2 with e | h2
    ·exact e.symm
    ·have := ha.1 y h2; have := hb.1 x h1; omega
  subst e
  rw [asc_eq ha.2 hb.2 (fun z => ?_)]
  have hz := h z
  simp only [List.mem_cons] at hz
  constructor
  ·intro hza
   rcases hz.1 (.inr hza) with e | h'
   ·subst e; have := ha.1 z hza; omega
   ·exact h'
  ·intro hzb
   rcases hz.2 (.inr hzb) with e | h'
   ·subst e; have := hb.1 z hzb; omega
   ·exact h'
theorem Grp.head {key : Int → Int} {l : List Int} {d : List Int} {D : List (List Int)} (h : Grp key l (d :: D)) : ∀ x, x ∈ d ↔ x ∈ l ∧ ∀ y ∈ l, key x ≤ key y := by
 intro x
 have hlt := List.pairwise_cons.1 h.lt
 constructor
 ·intro hx
  refine ⟨(h.mem x).2 ⟨d, by simp, hx⟩, fun y hy => ?_⟩
  obtain ⟨e, he, hye⟩ := (h.mem y).1 hy
  rcases List.mem_cons.1 he with rfl | he
  ·rw [h.same e (by simp) x hx y hye]; omega
  ·have := hlt.1 e he x hx y hye; omega
 ·rintro ⟨hx, hmin⟩
  obtain ⟨e, he, hxe⟩ := (h.mem x).1 hx
  rcases List.mem_cons.1 he with rfl | he
  ·exact hxe
  ·exfalso
   obtain ⟨z, hz⟩ := List.exists_mem_of_ne_nil d (h.ne d (by simp))
   have h1 := hlt.1 e he z hz x hxe
   have h2 := hmin z ((h.mem z).2 ⟨d, by simp, hz⟩)
   omega
theorem Grp.tail {key : Int → Int} {l : List Int} {d : List Int} {D : List (List Int)} (h : Grp key l (d :: D)) : Grp key (l.filter (fun x => !d.contains x)) D := by
 have hlt := List.pairwise_cons.1 h.lt
 refine ⟨fun e he => h.ne e (by simp [he]), fun e he => h.asc e (by simp [he]), fun e he => h.same e (by simp [he]), hlt.2, fun x => ?_⟩
 simp only [List.mem_filter, List.contains_eq_mem, Bool.not_eq_true', decide_eq_false_iff_not]
 constructor
 ·rintro ⟨hx, hn⟩
  obtain ⟨e, he, hxe⟩ := (h.mem x).1 hx
  rcases List.mem_cons.1 he with rfl | he
  ·exact absurd hxe hn
  ·exact ⟨e, he, hxe⟩
 ·rintro ⟨e, he, hxe⟩
  refine ⟨(h.mem x).2 ⟨e, by simp [he], hxe⟩, fun hxd => ?_⟩
  have := hlt.1 e he x hxd x hxe
  omega
theorem Grp.uniq {key : Int → Int} : ∀ {l : List Int} {D D' : List (List Int)}, Grp key l D → Grp key l D' → D = D'
 | l, [], [], _, _ => rfl
 | l, [], e :: D', h, h' => by
  exfalso
  obtain ⟨z, hz⟩ := List.exists_mem_of_ne_nil e (h'.ne e (by simp))
  obtain ⟨d, hd, -⟩ := (h.mem z).1 ((h'.mem z).2 ⟨e, by simp, hz⟩)
  cases hd
 | l, d :: D, [], h, h' => by
  exfalso
  obtain ⟨z, hz⟩ := List.exists_mem_of_ne_nil d (h.ne d (by simp))
  obtain ⟨e, hd, -⟩ := (h'.mem z).1 ((h.mem z).2 ⟨d, by simp, hz⟩)
  cases hd
 | l, d :: D, e :: D', h, h' => by
  have e1 : d = e := asc_eq (h.asc d (by simp)) (h'.asc e (by simp)) (fun x => (h.head x).trans (h'.head x).symm)
  subst e1
  rw [Grp.uniq h.tail h'.tail]
/-- The groups, one after another. -/
def grpF (key : Int → Int) : Nat → List Int → List (List Int)
 | 0, _ => []
 | f + 1, l => if l = [] then [] else l.filter (fun x => l.all fun y => decide (key x ≤ key y)) :: grpF key f (l.filter (fun x => !(l.all fun y => decide (key x ≤ key y))))
def grps (key : Int → Int) (l : List Int) : List (List Int) := grpF key l.length l
theorem exists_min (key : Int → Int) : ∀ (l : List Int), l ≠ [] → ∃ x ∈ l, ∀ y ∈ l, key x ≤ key y
 | [], h => absurd rfl h
 | [x], _ => ⟨x, by simp, by simp⟩
 | x :: y :: l, _ => by
  obtain ⟨z, hz, hm⟩ := exists_min key (y :: l) (by simp)
  by_cases h : key x ≤ key z
  ·exact ⟨x, by simp, fun w hw => by
    rcases List.mem_cons.1 hw with rfl | hw
    ·omega
    ·have := hm w hw; omega⟩
  ·exact ⟨z, List.mem_cons_of_mem _ hz, fun w hw => by
    rcases List.mem_cons.1 hw with rfl | hw
    ·omega
    ·exact hm w hw⟩
theorem grpF_ok (key : Int → Int) : ∀ (f : Nat) (l : List Int), l.length ≤ f → l.Pairwise (· < ·) → Grp key l (grpF key f l)
 | 0, l, h, _ => by
  have : l = [] := List.length_eq_zero_iff.1 (by omega)
  subst this
  exact ⟨by simp [grpF], by simp [grpF], by simp [grpF], by simp [grpF], by simp [grpF]⟩
 | f + 1, l, h, ha => by
  by_cases hl : l = []
  ·subst hl
   exact ⟨by simp [grpF], by simp [grpF], by simp [grpF], by simp [grpF], by simp [grpF]⟩
  ·obtain ⟨z, hz, hzm⟩ := exists_min key l hl
   have hcut : (l.filter (fun x => !(l.all fun y => decide (key x ≤ key y)))).length < l.length := by
    rcases Nat.lt_or_ge (l.filter (fun x => !(l.all fun y => decide (key x ≤ key y)))).length l.length with h1 | h1
    ·exact h1
    ·exfalso
     have he := List.length_filter_eq_length_iff.1 (Nat.le_antisymm (List.length_filter_le _ _) h1) z hz
     simp only [Bool.not_eq_true'] at he
     have : (l.all fun y => decide (key z ≤ key y)) = true := List.all_eq_true.2 (fun y hy => decide_eq_true (hzm y hy))
     rw [this] at he; cases he
   have ih := grpF_ok key f (l.filter (fun x => !(l.all fun y => decide (key x ≤ key y)))) (by omega) (ha.filter _)
   unfold grpF
   rw [if_neg hl]
   have hm : ∀ x, x ∈ l.filter (fun x => l.all fun y => decide (key x ≤ key y)) ↔ x ∈ l ∧ ∀ y ∈ l, key x ≤ key y := by
    intro x; simp [List.mem_filter]
   have hr : ∀ x, x ∈ l.filter (fun x => !(l.all fun y => decide (key x ≤ key y))) ↔ x ∈ l ∧ ∃ y ∈ l, key y < key x := by
    intro x; simp [List.mem_filter]
   refine ⟨?_, ?_, ?_, ?_, ?_⟩
   ·intro d hd
    rcases List.mem_cons.1 hd with rfl | hd
    ·intro e
     have := (hm z).2 ⟨hz, hzm⟩
     rw [e] at this; cases this
    ·exact ih.ne d hd
   ·intro d hd
    rcases List.mem_cons.1 hd with rfl | hd
    ·exact ha.filter _
    ·exact ih.asc d hd
   ·intro d hd
    rcases List.mem_cons.1 hd with rfl | hd
    ·intro x hx y hy
     have h1 := (hm x).1 hx
     have h2 := (hm y).1 hy
     have := h1.2 y h2.1
     have := h2.2 x h1.1
     omega
    ·exact ih.same d hd
   ·refine List.pairwise_cons.2 ⟨fun e he x hx y hy => ?_, ih.lt⟩
    have h1 := (hm x).1 hx
    have h2 := (hr y).1 ((ih.mem y).2 ⟨e, he, hy⟩)
    obtain ⟨w, hw, hlt⟩ := h2.2
    have := h1.2 w hw
    omega
   ·intro x
    constructor
    ·intro hx
     by_cases hmin : ∀ y ∈ l, key x ≤ key y
     ·exact ⟨_, by simp, (hm x).2 ⟨hx, hmin⟩⟩
     ·obtain ⟨e, he, hxe⟩ := (ih.mem x).1 ((hr x).2 ⟨hx, by
       by_cases hex : ∃ y ∈ l, key y < key x
       ·exact hex
       ·exact absurd (fun y hy => by
         rcases Int.lt_or_le (key y) (key x) with h' | h'
         ·exact absurd ⟨y, hy, h'⟩ hex
         ·exact h') hmin⟩)
      exact ⟨e, by simp [he], hxe⟩
    ·rintro ⟨d, hd, hx⟩
     rcases List.mem_cons.1 hd with rfl | hd
     ·exact ((hm x).1 hx).1
     ·exact ((hr x).1 ((ih.mem x).2 ⟨d, hd, hx⟩)).1
theorem grps_ok (key : Int → Int) {l : List Int} (h : l.Pairwise (· < ·)) : Grp key l (grps key l) := grpF_ok key _ l (Nat.le_refl _) h
theorem Grp.eq {key : Int → Int} {l : List Int} {D : List (List Int)} (h : Grp key l D) (ha : l.Pairwise (· < ·)) : D = grps key l := h.uniq (grps_ok key ha)

/-- One number more, behind those that are sorted. -/
def gput (key : Int → Int) (out : List (List Int)) (prev : Option Int) (x : Int) : List (List Int) :=
 if prev.any (fun y => key y = key x) then out.dropLast ++ [out.getLastD [] ++ [x]] else out ++ [[x]]
/-- The groups of the first k numbers. -/
def splK (key : Int → Int) (S : List Int) : Nat → List (List Int)
 | 0 => []
 | k + 1 => match S[k]? with
  | none => splK key S k
  | some x => gput key (splK key S k) (if k = 0 then none else S[k - 1]?) x
/-- What the groups of the first k numbers are. -/
structure SplI (key : Int → Int) (S : List Int) (k : Nat) (D : List (List Int)) : Prop where
 ne : ∀ d ∈ D, d ≠ []
 asc : ∀ d ∈ D, d.Pairwise (· < ·)
 same : ∀ d ∈ D, ∀ x ∈ d, ∀ y ∈ d, key x = key y
 lt : D.Pairwise (fun d e => ∀ x ∈ d, ∀ y ∈ e, key x < key y)
 flat : D.flatten = S.take k
theorem flat_last {D : List (List Int)} (h : D ≠ []) : D.dropLast.flatten ++ D.getLastD [] = D.flatten := by
 obtain ⟨D', d, rfl⟩ : ∃ D' d, D = D' ++ [d] := by
  rcases List.eq_nil_or_concat D with rfl | ⟨D', d, rfl⟩
  ·exact absurd rfl h
  ·exact ⟨D', d, List.concat_eq_append⟩
 simp
theorem SplI.step {key : Int → Int} {S : List Int} {k : Nat} {D : List (List Int)} (hS : S.Pairwise (lx key)) (h : SplI key S k D) (hk : k < S.length) :
  SplI key S (k + 1) (gput key D (if k = 0 then none else S[k - 1]?) (S[k]'hk)) := by
 have hfl : S.take (k + 1) = D.flatten ++ [S[k]'hk] := by rw [List.take_succ_eq_append_getElem hk, h.flat]
 have hlx : ∀ y ∈ D.flatten, lx key y (S[k]'hk) := by
  intro y hy
  rw [h.flat] at hy
  have := hS
  rw [← List.take_append_drop k S, List.pairwise_append] at this
  exact this.2.2 y hy _ (by rw [List.drop_eq_getElem_cons hk]; exact List.mem_cons_self)
 generalize S[k]'hk = x at hfl hlx
 by_cases h0 : k = 0
 ·subst h0
  have hD : D = [] := by
   cases D with
   | nil => rfl
   | cons d D =>
    have h1 := h.flat
    have h2 := h.ne d (by simp)
    rw [List.flatten_cons] at h1
    have : d = [] := by
     have := congrArg List.length h1
     simp at this
     exact List.length_eq_zero_iff.1 (by simp [this.1])
    exact absurd this h2
  subst hD
  rw [if_pos rfl]
  exact ⟨by simp [gput], by simp [gput], by simp [gput], by simp [gput], by simp [gput]; simpa using hfl.symm⟩
 ·rw [if_neg h0]
  have hp : S[k - 1]? = some (S[k - 1]'(by omega)) := List.getElem?_eq_getElem (by omega)
  rw [hp]
  have hlast : (S.take k).getLast? = some (S[k - 1]'(by omega)) := by
   have e : k = (k - 1) + 1 := by omega
   have e2 : S.take k = S.take (k - 1) ++ [S[k - 1]'(by omega)] := by
    conv => lhs; rw [e]
    exact List.take_succ_eq_append_getElem (by omega)
   rw [e2]; exact List.getLast?_concat
  generalize S[k - 1]'(by omega) = y at hlast hp
  have hne : D ≠ [] := by
   intro e; subst e
   rw [← h.flat] at hlast
   simp at hlast
  obtain ⟨D', d, rfl⟩ : ∃ D' d, D = D' ++ [d] := by
   rcases List.eq_nil_or_concat D with rfl | ⟨D', d, rfl⟩
   ·exact absurd rfl hne
   ·exact ⟨D', d, List.concat_eq_append⟩
  have hyd : y ∈ d := by
   have hd := h.ne d (by simp)
   rw [← h.flat] at hlast
   rw [List.flatten_append] at hlast
   simp only [List.flatten_cons, List.flatten_nil, List.append_nil, List.getLast?_append] at hlast
   obtain ⟨z, hz⟩ : ∃ z, d.getLast? = some z := by
    cases hd' : d.getLast? with
    | none => rw [List.getLast?_eq_none_iff] at hd'; exact absurd hd' hd
    | some z => exact ⟨z, rfl⟩
   rw [hz] at hlast
   simp at hlast
   subst hlast
   exact List.mem_of_getLast? hz
  have hmemd : ∀ z ∈ d, lx key z x := fun z hz => hlx z (by simp [hz])
  have hmemD : ∀ e ∈ D', ∀ z ∈ e, lx key z x := fun e he z hz => hlx z (by
   rw [List.mem_flatten]; exact ⟨e, by simp [he], hz⟩)
  have hpw := List.pairwise_append.1 h.lt
  unfold gput
  by_cases hk' : key y = key x
  ·have : (some y).any (fun y => decide (key y = key x)) = true := by simp [hk']
   rw [if_pos (by simpa using hk')]
   simp only [List.dropLast_concat, List.getLastD_concat]
   refine ⟨?_, ?_, ?_, ?_, ?_⟩
   ·intro e he
    rcases List.mem_append.1 he with he | he
    ·exact h.ne e (by simp [he])
    ·rw [List.mem_singleton.1 he]; simp
   ·intro e he
    rcases List.mem_append.1 he with he | he
    ·exact h.asc e (by simp [he])
    ·rw [List.mem_singleton.1 he]
     refine List.pairwise_append.2 ⟨h.asc d (by simp), by simp, fun z hz u hu => ?_⟩
     rw [List.mem_singleton.1 hu]
     have h1 := hmemd z hz
     have h2 := h.same d (by simp) z hz y hyd
     unfold lx at h1
     omega
   ·intro e he
    rcases List.mem_append.1 he with he | he
    ·exact h.same e (by simp [he])
    ·rw [List.mem_singleton.1 he]
     intro a ha b hb
     have key1 : ∀ a ∈ d ++ [x], key a = key x := by
      intro a ha
      rcases List.mem_append.1 ha with ha | ha
      ·rw [h.same d (by simp) a ha y hyd, hk']
      ·rw [List.mem_singleton.1 ha]
     rw [key1 a ha, key1 b hb]
   ·refine List.pairwise_append.2 ⟨hpw.1, by simp, fun e he f hf => ?_⟩
    rw [List.mem_singleton.1 hf]
    intro a ha b hb
    have h1 := hpw.2.2 e he d (by simp) a ha y hyd
    rcases List.mem_append.1 hb with hb | hb
    ·exact hpw.2.2 e he d (by simp) a ha b hb
    ·rw [List.mem_singleton.1 hb]; omega
   ·rw [hfl]; simp
  ·rw [if_neg (by simpa using hk')]
   refine ⟨?_, ?_, ?_, ?_, ?_⟩
   ·intro e he
    rcases List.mem_append.1 he with he | he
    ·exact h.ne e he
    ·rw [List.mem_singleton.1 he]; simp
   ·intro e he
    rcases List.mem_append.1 he with he | he
    ·exact h.asc e he
    ·rw [List.mem_singleton.1 he]; simp
   ·intro e he
    rcases List.mem_append.1 he with he | he
    ·exact h.same e he
    ·rw [List.mem_singleton.1 he]; simp
   ·refine List.pairwise_append.2 ⟨h.lt, by simp, fun e he f hf => ?_⟩
    rw [List.mem_singleton.1 hf]
    intro a ha b hb
    rw [List.mem_singleton.1 hb]
    have hyx := hmemd y hyd
    rcases List.mem_append.1 he with he | he
    ·have h1 := hpw.2.2 e he d (by simp) a ha y hyd
     unfold lx at hyx; omega
    ·rw [List.mem_singleton.1 he] at ha
     have h2 := h.same d (by simp) a ha y hyd
     unfold lx at hyx; omega
   ·rw [hfl]; simp
theorem splK_ok {key : Int → Int} {S : List Int} (hS : S.Pairwise (lx key)) : ∀ k, k ≤ S.length → SplI key S k (splK key S k)
 | 0, _ => ⟨by simp [splK], by simp [splK], by simp [splK], by simp [splK], by simp [splK]⟩
 | k + 1, h => by
  have := (splK_ok hS k (by omega)).step hS (by omega)
  unfold splK
  rw [List.getElem?_eq_getElem (by omega : k < S.length)]
  exact this
theorem spl_grps {key : Int → Int} {S l : List Int} (hS : S.Pairwise (lx key)) (hp : S.Perm l) (hl : l.Pairwise (· < ·)) : splK key S S.length = grps key l := by
 have h := splK_ok hS S.length (Nat.le_refl _)
 refine Grp.eq ⟨h.ne, h.asc, h.same, h.lt, fun x => ?_⟩ hl
 rw [← hp.mem_iff]
 have := h.flat
 rw [List.take_length] at this
 rw [← List.mem_flatten, this]
end Go.Proofs.Ytlfbbofcnonhdaa

/- Contracts: the stable sort, grouped. -/
namespace Go.Proofs.Ytlfbbofcnonhdaa
open Go.RowKit Go.Proofs Go.Shelf
attribute [local go_sem] Oper.semAt_some

theorem stable100 (f : FuncId) (first caps : Array Value) (cv : Int → Int → Int) (key : Int → Int) (dom : Int → Prop) (d : List Int) (b cap : Nat) (w0 w : World) (hf : ∀ args w, (callFunc f args).run Try.prog w = .ok (.enter f args) w)
  (hcl : CmpC f first caps cv dom w0) (hcv : CvK cv key dom) (hd : ∀ x ∈ d, dom x) (hinc : d.Pairwise (· < ·)) (hb : w0.heap.size ≤ b) (h0 : Below w0.heap.size w0 w) (hI : RowI w b d) (hdl : d.length ≤ 19) (hcap : d.length ≤ cap) :
  Calls Try.prog 100 #[.slice (some ⟨b, 0, none⟩) d.length cap, .int .i64 d.length, .func (.func f) first caps] w fun e w' =>
   (∃ r, e = .returned r) ∧ Kx w0 b w w' ∧ ∃ d', d'.Perm d ∧ d'.Pairwise (lx key) ∧ RowI w' b d' := by
 have H := Lib.hid (insertion107 f first caps cv key dom d b cap w0 w hf hcl hcv hd hinc hb h0 hI (by omega) hcap)
 clear hcl hcv hd hinc h0 hI
 have h1 : ¬ (20 : Int) ≤ (d.length : Int) := by omega
 have h2 : ¬ (20 : Int) < (d.length : Int) := by omega
 go_enter Try.func100, Try.ntmps100
 go_wp2_with fail
 go_loop [7, 8] (fun av bv => av = .int .i64 0 ∧ bv = .int .i64 20) (fun _ _ => 0)
 case atStart => exact ⟨rfl, rfl⟩
 case round =>
  obtain ⟨rfl, rfl⟩ := hrel
  go_wp2_with (go_at_call 107; refine H.out.mono ?_; rintro e w1 ⟨⟨r, rfl⟩, hk, hs⟩)
  go_loop [6] (fun av => av = .int .i64 20) (fun _ => 0)
  case atStart => rfl
  case round =>
   obtain rfl := hrel
   go_wp2_with fail
   go_end0
   exact ⟨⟨_, rfl⟩, hk, hs⟩
theorem sort95 (f : FuncId) (first caps : Array Value) (cv : Int → Int → Int) (key : Int → Int) (dom : Int → Prop) (d : List Int) (b cap : Nat) (w0 w : World) (hf : ∀ args w, (callFunc f args).run Try.prog w = .ok (.enter f args) w)
  (hcl : CmpC f first caps cv dom w0) (hcv : CvK cv key dom) (hd : ∀ x ∈ d, dom x) (hinc : d.Pairwise (· < ·)) (hb : w0.heap.size ≤ b) (h0 : Below w0.heap.size w0 w) (hI : RowI w b d) (hdl : d.length ≤ 19) (hcap : d.length ≤ cap) :
  Calls Try.prog 95 #[.slice (some ⟨b, 0, none⟩) d.length cap, .func (.func f) first caps] w fun e w' =>
   (∃ r, e = .returned r) ∧ Kx w0 b w w' ∧ ∃ d', d'.Perm d ∧ d'.Pairwise (lx key) ∧ RowI w' b d' := by
 have H := Lib.hid (stable100 f first caps cv key dom d b cap w0 w hf hcl hcv hd hinc hb h0 hI hdl hcap)
 clear hcl hcv hd hinc h0 hI
 go_enter Try.func95, Try.ntmps95
 go_wp2_with (go_at_call 100; refine H.out.mono ?_; rintro e w1 ⟨⟨r, rfl⟩, hk, hs⟩)
 go_end0
 exact ⟨⟨_, rfl⟩, hk, hs⟩
theorem wpList_append_run {P : Program} {ops : Array Oper} {rest : List Oper} {o : Oper} {a : Act} {Q : Exit → Act → World → Prop} {w w' : World} {v u v' : Value} {t ty : TypeId}
  (hrun : (Builtin.append_ #[t, t] ty #[v, u]).run P w = .ok v' w') (hty : o.type = ty) (hgd : o.guard = none) (s x : Operand)
  (ho : o.op = .call { callee := .builtin .append, args := #[s, x], argTypes := #[t, t] }) (hs : a.eval s = v) (hx : a.eval x = u) (h : wpList P ops Q rest (a.put o.dst v') w') : wpList P ops Q (o :: rest) a w :=
 wpList_plain hgd fun _ hK => by
  subst hty
  unfold Oper.wp execOp
  simp only [ho, resolve, invoke, builtin, Sem.run_bind, Sem.run_pure, Result.andThen_ok, List.map_toArray, List.map_cons, List.map_nil, hs, hx, hrun]
  exact hK _ _ h
theorem Try.info26 : (Try.prog.info? 26).map (fun i => (i.zero, i.size, i.bytes)) = some (some (.slice none 0 0), 1, 24) := by kernel_rfl
/-- Groups in memory of the call's own, each of which may grow. -/
def GrO (n1 : Nat) (W : World) (u : Value) (dd : List (List Int)) : Prop :=
 ∃ D : List (Dv Int), Own n1 26 1 eD W u D ∧ D.map Dv.l = dd ∧ (∀ p ∈ D, p.n = p.l.length ∧ Own n1 3 1 eI W p.v p.l ∧ ∃ g, p.A = some ⟨g, 0, none⟩ ∧ some g ≠ u.ownBlock) ∧ D.Pairwise (fun p q => p.A ≠ q.A)
theorem GrO.nil (n1 : Nat) (W : World) : GrO n1 W (.slice none 0 0) [] := ⟨[], World.ownsRow_nil _ _ _ _, rfl, (fun _ h => by cases h), List.Pairwise.nil⟩
theorem GrO.up {n1 : Nat} {W W' : World} {u : Value} {dd : List (List Int)} (h : GrO n1 W u dd) (hb : Below W.heap.size W W') : GrO n1 W' u dd := by
 obtain ⟨D, h1, h2, h3, h4⟩ := h
 exact ⟨D, row_up h1 hb, h2, fun p hp => ⟨(h3 p hp).1, row_up (h3 p hp).2.1 hb, (h3 p hp).2.2⟩, h4⟩
theorem GrO.form {n1 : Nat} {W : World} {u : Value} {dd : List (List Int)} (h : GrO n1 W u dd) : ∃ A c, u = .slice A dd.length c := by
 obtain ⟨D, h1, rfl, -⟩ := h
 obtain ⟨A, c, h4, -⟩ := row_form h1
 exact ⟨A, c, by rw [List.length_map]; exact h4⟩
theorem GrO.own {n1 : Nat} {W : World} {u : Value} {dd : List (List Int)} (h : GrO n1 W u dd) (hl : ∀ d ∈ dd, d.length ≤ 1000) : OwnD n1 26 1 eI W u dd := by
 obtain ⟨D, h1, h2, h3, -⟩ := h
 refine ⟨D, h1, fun p hp => ⟨Arr.of_own EI (h3 p hp).2.1 (Nat.le_trans (hl p.l (by rw [← h2]; exact List.mem_map_of_mem hp)) (by decide)), fun g o e => ?_⟩, h2⟩
 obtain ⟨-, h4, g', h5, h6⟩ := h3 p hp
 rw [h5] at e
 injection e with e
 injection e with e1 e2
 subst e1
 have := h4.lt g' (by show (Value.slice p.A p.n p.c).ownBlock = _; rw [h5]; rfl)
 exact ⟨this.1, this.2, h6⟩
/-- One group more. -/
theorem GrO.new {n1 : Nat} {W : World} {u : Value} {dd : List (List Int)} (h : GrO n1 W u dd) (hn : n1 ≤ W.heap.size) (hl : dd.length ≤ 1000) (x : Int) :
  ∃ v' w', (Builtin.append_ #[113, 113] 113 #[u, .slice (some ⟨W.heap.size + 1, 0, none⟩) 1 1]).run Try.prog ((W.alloc (.cells #[.int .i64 x] 3)).alloc (.cells #[.slice (some ⟨W.heap.size, 0, none⟩) 1 1] 26)) = .ok v' w' ∧ GrO n1 w' v' (dd ++ [[x]]) ∧ Below n1 W w' ∧ ∃ A c, v' = .slice A (dd.length + 1) c := by
 obtain ⟨D, h1, h2, h3, h4⟩ := h
 obtain ⟨W1, hW1⟩ : ∃ W1, W.alloc (.cells #[.int .i64 x] 3) = W1 := ⟨_, rfl⟩
 have b1 : Below W.heap.size W W1 := by rw [← hW1]; exact (Below.refl _ _).alloc (Nat.le_refl _) _
 have z1 : W1.heap.size = W.heap.size + 1 := by rw [← hW1]; simp
 have o1 : W1.ownsRow n1 3 1 (.slice (some ⟨W.heap.size, 0, none⟩) 1 1) 1 [.int .i64 x] := by
  rw [← hW1]; exact World.ownsRow_lit W #[.int .i64 x] 1 hn (by decide) rfl
 rw [hW1]
 have b2 : Below W1.heap.size W1 (W1.alloc (.cells #[.slice (some ⟨W.heap.size, 0, none⟩) 1 1] 26)) := (Below.refl _ _).alloc (Nat.le_refl _) _
 have hl' : D.length ≤ 1000 := by rw [← h2, List.length_map] at hl; exact hl
 obtain ⟨v', w', r1, r2, r3, r4, r5⟩ := run_app (sl := 113) (ty := 113) ED (by decide) Try.underlying113 Try.info26 rfl (by decide) (w := W1.alloc (.cells #[.slice (some ⟨W.heap.size, 0, none⟩) 1 1] 26)) (M := [⟨some ⟨W.heap.size, 0, none⟩, 1, 1, [x]⟩]) (row_up (row_up h1 b1) b2) (a := ⟨W1.heap.size, 0, none⟩) (m := 1) (c := 1) rfl (news_one W1 26 (enc := eD (α := Int)) ⟨some ⟨W.heap.size, 0, none⟩, 1, 1, [x]⟩) (by simp; omega) (by have := b2.size; omega)
 rw [z1] at r1
 have hge : ∀ j, u.ownBlock = some j → n1 ≤ j ∧ j < W.heap.size := fun j hj => h1.lt j hj
 have hb' : Below n1 W w' := ((b1.mono hn).trans (b2.mono (by omega))).grown r3 (by have := b2.size; omega) (fun j e => (hge j e).1)
 have hz : W1.heap.size + 1 = (W1.alloc (.cells #[.slice (some ⟨W.heap.size, 0, none⟩) 1 1] 26)).heap.size := by simp
 have r4' : v'.ownBlock = u.ownBlock ∨ v'.ownBlock = some (W.heap.size + 2) := by rcases r4 with h | h; exact .inl h; right; rw [h, ← hz, z1]
 refine ⟨v', w', r1, ⟨D ++ [⟨some ⟨W.heap.size, 0, none⟩, 1, 1, [x]⟩], r2, by rw [List.map_append, h2]; rfl, ?_, ?_⟩, hb', ?_⟩
 ·intro p hp
  rcases List.mem_append.1 hp with hp | hp
  ·obtain ⟨q1, q2, g, q3, q4⟩ := h3 p hp
   have hg := q2.lt g (by show (Value.slice p.A p.n p.c).ownBlock = _; rw [q3]; rfl)
   refine ⟨q1, (row_up (row_up q2 b1) b2).kept r3 (.inr (by show (Value.slice p.A p.n p.c).ownBlock ≠ _; rw [q3]; exact q4)), g, q3, ?_⟩
   rcases r4' with h | h
   ·rw [h]; exact q4
   ·rw [h]; intro e; injection e with e; omega
  ·rw [List.mem_singleton.1 hp]
   refine ⟨rfl, ?_, W.heap.size, rfl, ?_⟩
   ·exact (row_up o1 b2).kept r3 (.inr (fun e => by
     have := hge W.heap.size e.symm; omega))
   ·rcases r4' with h | h
    ·rw [h]; intro e; have := hge _ e.symm; omega
    ·rw [h]; intro e; injection e with e; omega
 ·refine List.pairwise_append.2 ⟨h4, by simp, fun p hp q hq => ?_⟩
  rw [List.mem_singleton.1 hq]
  obtain ⟨-, q2, g, q3, -⟩ := h3 p hp
  have hg := q2.lt g (by show (Value.slice p.A p.n p.c).ownBlock = _; rw [q3]; rfl)
  rw [q3]; intro e
  injection e with e; injection e with e; omega
 ·obtain ⟨A, c, e⟩ := r5
  refine ⟨A, c, ?_⟩
  rw [e, ← h2, List.length_map]; rfl
theorem flatD (D : List (Dv Int)) : D.flatMap eD = D.map Dv.v := by
 induction D with
 | nil => rfl
 | cons p D ih => rw [List.flatMap_cons, ih]; rfl
/-- The last group grows. -/
theorem GrO.last {n1 : Nat} {W : World} {u : Value} {dd : List (List Int)} {d : List Int} (h : GrO n1 W u (dd ++ [d])) (hn : n1 ≤ W.heap.size) (hl : d.length ≤ 1000) (x : Int) :
  ∃ gu A n c c2, u = .slice (some ⟨gu, 0, none⟩) (dd.length + 1) c2 ∧ W.cell? ⟨gu, dd.length, none⟩ = some (.slice A n c) ∧ ∃ v' w', (Builtin.append_ #[26, 26] 26 #[.slice A n c, .slice (some ⟨W.heap.size, 0, none⟩) 1 1]).run Try.prog (W.alloc (.cells #[.int .i64 x] 3)) = .ok v' w' ∧
   (∃ z, w'.cell? ⟨gu, dd.length, none⟩ = some z) ∧ w'.frozen? ⟨gu, dd.length, none⟩ = false ∧ GrO n1 (w'.setCell ⟨gu, dd.length, none⟩ v') u (dd ++ [d ++ [x]]) ∧ Below n1 W (w'.setCell ⟨gu, dd.length, none⟩ v') ∧ n1 < w'.heap.size ∧ ∃ A7 n7 c7, v' = .slice A7 n7 c7 := by
 obtain ⟨D, h1, h2, h3, h4⟩ := h
 obtain ⟨D', p, rfl⟩ : ∃ D' p, D = D' ++ [p] := by
  rcases List.eq_nil_or_concat D with rfl | ⟨D', d, rfl⟩
  ·simp at h2
  ·exact ⟨D', d, List.concat_eq_append⟩
 rw [List.map_append, List.map_singleton] at h2
 obtain ⟨hD', hpl⟩ := List.append_inj' h2 rfl
 simp only [List.cons.injEq, and_true] at hpl
 subst hpl
 have hlen : D'.length = dd.length := by rw [← hD', List.length_map]
 obtain ⟨q1, q2, g, q3, q4⟩ := h3 p (by simp)
 have hub' : ∃ gu cu, u = .slice (some ⟨gu, 0, none⟩) (dd.length + 1) cu := by
  obtain ⟨Au, cu, hu, -⟩ := row_form h1
  rw [List.length_append, List.length_singleton, hlen] at hu
  rcases h1.2 with ⟨-, h0⟩ | ⟨gu, cap, cur, hv, -⟩
  ·simp at h0
  ·refine ⟨gu, cu, ?_⟩; rw [hv] at hu ⊢; injection hu with e1 e2 e3; rw [← e2, e3]
 obtain ⟨gu, cu, hu⟩ := hub'
 subst hu
 have h1' : W.ownsRow n1 26 1 (.slice (some ⟨gu, 0, none⟩) (dd.length + 1) cu) (dd.length + 1) (D'.map Dv.v ++ [p.v]) := by
  have := h1
  unfold Own at this
  rw [flatD, List.map_append, List.length_append, List.length_singleton, hlen] at this
  exact this
 have hcell : W.cell? ⟨gu, dd.length, none⟩ = some (.slice p.A p.n p.c) := by
  rw [h1'.cellAt dd.length (by omega), List.getElem?_append_right (by rw [List.length_map]; omega), List.length_map, hlen, Nat.sub_self]; rfl
 have hfr : W.frozen? ⟨gu, dd.length, none⟩ = false := h1'.frozenAt _
 have hgu := h1'.lt gu rfl
 have hpo : p.v.ownBlock = some g := by show (Value.slice p.A p.n p.c).ownBlock = _; rw [q3]; rfl
 have hgg := q2.lt g hpo
 have hne : g ≠ gu := fun e => q4 (by rw [e]; rfl)
 have b1 : Below W.heap.size W (W.alloc (.cells #[.int .i64 x] 3)) := (Below.refl _ _).alloc (Nat.le_refl _) _
 obtain ⟨v', w', r1, r2, r3, r4, A7, c7, r5⟩ := run_app (sl := 26) (ty := 26) EI (by decide) Try.underlying26 Try.info3 rfl (by decide) (w := W.alloc (.cells #[.int .i64 x] 3)) (M := [x]) (row_up q2 b1) (a := ⟨W.heap.size, 0, none⟩) (m := 1) (c := 1) rfl (news_one W 3 (enc := eI) x) (by simp; omega) (by have := b1.size; omega)
 have hz : (W.alloc (.cells #[.int .i64 x] 3)).heap.size = W.heap.size + 1 := by simp
 rw [hz, hpo] at r4
 rw [hpo] at r3
 have hs3 := r3.size
 rw [hz] at hs3
 have r3' : ∀ b, b < W.heap.size → b ≠ g → w'.heap[b]? = W.heap[b]? := fun b hb hbg => (r3.block b (by omega) (by intro e; injection e with e; exact hbg e)).trans (b1.block b hb)
 have hlx : (p.l ++ [x]).length = p.l.length + 1 := by simp
 have hsx : [x].length = 1 := rfl
 rw [hsx] at r5
 obtain ⟨g7, hA7⟩ : ∃ g7, A7 = some ⟨g7, 0, none⟩ := by
  rcases r2.2 with ⟨-, h0⟩ | ⟨g7, cap, cur, hv, -⟩
  ·simp at h0
  ·refine ⟨g7, ?_⟩; rw [r5] at hv; injection hv
 subst hA7
 have hset := grown_set w' ⟨gu, dd.length, none⟩ v'
 have r4' : g7 = g ∨ g7 = W.heap.size + 1 := by
  rw [r5] at r4
  rcases r4 with h | h
  ·left; have h' : some g7 = some g := h; injection h'
  ·right; have h' : some g7 = some (W.heap.size + 1) := h; injection h'
 have hne7 : g7 ≠ gu := by omega
 have hob7 : v'.ownBlock = some g7 := by rw [r5]; rfl
 have hownu := (row_up h1' b1).kept r3 (.inr (by intro e; have e' : some gu = some g := e; injection e' with e'; exact hne e'.symm))
 have hst := (hownu.stored dd.length v').1
 rw [List.set_append_right _ _ (by rw [List.length_map]; omega), List.length_map, hlen, Nat.sub_self] at hst
 refine ⟨gu, p.A, p.n, p.c, cu, rfl, hcell, v', w', r1, ⟨_, (cell_heap (r3' gu hgu.2 (fun e => hne e.symm))).trans hcell⟩, (frozen_heap (r3' gu hgu.2 (fun e => hne e.symm))).trans hfr, ⟨D' ++ [⟨some ⟨g7, 0, none⟩, p.l.length + 1, c7, p.l ++ [x]⟩], ?_, ?_, ?_, ?_⟩, ?_, by omega, _, _, _, r5⟩
 ·show World.ownsRow _ _ _ _ _ _ _
  rw [flatD, List.map_append, List.length_append, List.length_singleton, hlen]
  have e2 : [(⟨some ⟨g7, 0, none⟩, p.l.length + 1, c7, p.l ++ [x]⟩ : Dv Int)].map Dv.v = [v'] := by rw [r5]; rfl
  rw [e2]
  exact hst
 ·rw [List.map_append, hD']; rfl
 ·intro q hq
  rcases List.mem_append.1 hq with hq | hq
  ·obtain ⟨s1, s2, g', s3, s4⟩ := h3 q (by simp [hq])
   have hqo : q.v.ownBlock = some g' := by show (Value.slice q.A q.n q.c).ownBlock = _; rw [s3]; rfl
   have hgne : g' ≠ g := fun e => (List.pairwise_append.1 h4).2.2 q hq p (by simp) (by rw [s3, q3, e])
   have hgu' : g' ≠ gu := fun e => s4 (by rw [e]; rfl)
   exact ⟨s1, ((row_up s2 b1).kept r3 (.inr (by rw [hqo]; intro e; injection e with e; exact hgne e))).kept hset (.inr (by rw [hqo]; intro e; injection e with e; exact hgu' e)), g', s3, s4⟩
  ·rw [List.mem_singleton.1 hq]
   refine ⟨hlx.symm, ?_, g7, rfl, ?_⟩
   ·have := World.ownsRow.kept r2 hset (.inr (by rw [hob7]; intro e; injection e with e; exact hne7 e))
    rw [r5] at this ⊢
    exact this
   ·intro e; have e' : some g7 = some gu := e; injection e' with e'; exact hne7 e'
 ·have hp4 := List.pairwise_append.1 h4
  refine List.pairwise_append.2 ⟨hp4.1, by simp, fun q hq y hy => ?_⟩
  rw [List.mem_singleton.1 hy]
  have h5 := hp4.2.2 q hq p (by simp)
  obtain ⟨s1, s2, g', s3, s4⟩ := h3 q (by simp [hq])
  have hqo : q.v.ownBlock = some g' := by show (Value.slice q.A q.n q.c).ownBlock = _; rw [s3]; rfl
  have hg' := s2.lt g' hqo
  rw [s3]
  rw [s3, q3] at h5
  intro e
  injection e with e
  injection e with e
  rcases r4' with h | h
  ·exact h5 (by rw [e, h])
  ·omega
 ·exact ((b1.mono hn).grown r3 (by omega) (fun j e => by injection e with e; omega)).grown hset (by omega) (fun j e => by have e' : some gu = some j := e; injection e' with e'; omega)
theorem RowI.of_own {base : Nat} {W : World} {v : Value} {l : List Int} (h : Own base 3 1 eI W v l) (hl : l ≠ []) : ∃ g c, v = .slice (some ⟨g, 0, none⟩) l.length c ∧ base ≤ g ∧ g < W.heap.size ∧ l.length ≤ c ∧ RowI W g l := by
 rcases h.2 with ⟨-, h0⟩ | ⟨g, c, cur, hv, hb, hg, hlc, -⟩
 ·exact absurd (List.length_eq_zero_iff.1 h0) hl
 ·subst hv
  refine ⟨g, c, rfl, hb, (Array.getElem?_eq_some_iff.1 hg).1, hlc, fun j hj => ⟨?_, World.ownsRow.frozenAt h j⟩⟩
  rw [World.ownsRow.cellAt h j (by omega)]
  have := flat_get EI hj 0 (by omega)
  rw [Nat.mul_one, Nat.add_zero] at this
  rw [this]; rfl
theorem splK_succ {key : Int → Int} {S : List Int} {k : Nat} (hk : k < S.length) : splK key S (k + 1) = gput key (splK key S k) (if k = 0 then none else S[k - 1]?) (S[k]'hk) := by
 show (match S[k]? with | none => _ | some x => _) = _
 rw [List.getElem?_eq_getElem hk]
theorem flat_mem_len : ∀ {D : List (List Int)} {d : List Int}, d ∈ D → d.length ≤ D.flatten.length
 | e :: D, d, h => by
  rw [List.flatten_cons, List.length_append]
  rcases List.mem_cons.1 h with rfl | h
  ·omega
  ·have := flat_mem_len h; omega
theorem gput_len (key : Int → Int) (out : List (List Int)) (p : Option Int) (x : Int) : (gput key out p x).length ≤ out.length + 1 := by
 unfold gput
 split
 ·rw [List.length_append, List.length_dropLast, List.length_singleton]; omega
 ·rw [List.length_append, List.length_singleton]; omega
theorem splK_len {key : Int → Int} {S : List Int} : ∀ k, (splK key S k).length ≤ k
 | 0 => by simp [splK]
 | k + 1 => by
  have ih := splK_len (key := key) (S := S) k
  by_cases hk : k < S.length
  ·rw [splK_succ hk]
   exact Nat.le_trans (gput_len _ _ _ _) (by omega)
  ·show (match S[k]? with | none => splK key S k | some x => gput key (splK key S k) (if k = 0 then none else S[k - 1]?) x).length ≤ k + 1
   rw [List.getElem?_eq_none (by omega)]
   show (splK key S k).length ≤ k + 1
   omega

set_option maxRecDepth 100000 in
set_option maxHeartbeats 4000000 in
theorem grouped86 (f : FuncId) (first caps : Array Value) (cv : Int → Int → Int) (key : Int → Int) (dom : Int → Prop) (l : List Int) (v : Value) (w : World) (hf : ∀ args w, (callFunc f args).run Try.prog w = .ok (.enter f args) w)
  (hcl : CmpC f first caps cv dom w) (hcv : CvK cv key dom) (hd : ∀ x ∈ l, dom x) (hinc : l.Pairwise (· < ·)) (hrow : Arr 1 eI w v l) (hdl : l.length ≤ 19) (hne : l ≠ []) :
  Calls Try.prog 86 #[v, .func (.func f) first caps] w fun e w' => (∃ u, e = .returned u ∧ OwnD w.heap.size 26 1 eI w' u (grps key l)) ∧ Below w.heap.size w w' := by
 have HCL := Lib.hid (Clone94 l v w hrow (by omega))
 have HSO := Lib.hid (fun b cap w1 h0 hI hb hcap => sort95 f first caps cv key dom l b cap w w1 hf hcl hcv hd hinc hb h0 hI hdl hcap)
 have HCM := Lib.hid hcl
 have HCV := Lib.hid hcv
 have HD := Lib.hid hd
 have HINC := Lib.hid hinc
 have HNE := Lib.hid hne
 clear hcl hcv hd hinc hrow hne
 go_enter Try.func86, Try.ntmps86
 go_upto_region 2 with (go_at_call 94; refine HCL.out.mono ?_; rintro e w1 ⟨⟨u, rfl, hown⟩, hb1⟩)
 obtain ⟨g, c, rfl, hg1, hg2, hlc, hR⟩ := RowI.of_own hown HNE.out
 have HS2 := Lib.hid (HSO.out g c w1 hb1 hR hg1 hlc)
 clear hown hR HCL HSO
 go_upto_region 3 with (go_at_call 95; refine HS2.out.mono ?_; rintro e w2 ⟨⟨r, rfl⟩, hk, S, hp, hs, hI⟩)
 have hb2 : Below w.heap.size w w2 := hk.1
 have hgw : g < w2.heap.size := by have := hk.2.1; omega
 have HB2 := Lib.hid hb2
 have HI := Lib.hid hI
 have HSP := Lib.hid (splK_ok hs)
 have HEND := Lib.hid (spl_grps hs hp HINC.out)
 have HDS : Hid (∀ x ∈ S, dom x) := fun x hx => HD.out x (hp.mem_iff.1 hx)
 have hlS : S.length = l.length := hp.length_eq
 have hSl : S.length ≤ 19 := by omega
 have HLS := Lib.hid hlS
 clear hb2 hI hp hs hk HS2 hb1
 rw [← hlS]
 clear hlS
 go_wp2_with fail
 go_loopw [6, 16] (fun u iv wr => ∃ k : Nat, k ≤ S.length ∧ iv = .int .i64 k ∧ Hid (∃ A c', u = .slice A (splK key S k).length c') ∧ Hid (GrO w2.heap.size wr u (splK key S k)) ∧ Hid (Below w2.heap.size w2 wr)) (fun _ iv _ => S.length - (intOf iv).toNat)
 case atStart => exact ⟨0, by omega, rfl, ⟨none, 0, rfl⟩, GrO.nil _ _, Below.refl _ _⟩
 case round =>
  obtain ⟨k, hk, rfl, ⟨A, c', rfl⟩, hgr, hb⟩ := hrel
  have HG := Lib.hid hgr.out
  have HB := Lib.hid hb.out
  clear hgr hb
  obtain ⟨wo, rfl⟩ : ∃ W, W = wr := ⟨_, rfl⟩
  by_cases hlt : k < S.length
  ·have hlt' : (k : Int) < (S.length : Int) := by omega
   have hlc' : k < l.length := by have := HLS.out; omega
   obtain ⟨a0, -⟩ := (HI.out.up HB.out) k hlt
   have hsp := splK_succ (key := key) hlt
   have hdx : Hid (dom (S[k]'hlt)) := HDS.out _ (List.getElem_mem _)
   obtain ⟨x, hx⟩ : ∃ x, S[k]'hlt = x := ⟨_, rfl⟩
   rw [hx] at a0 hsp hdx
   have HSPL := Lib.hid hsp
   have hln := splK_len (key := key) (S := S) k
   clear hx hsp
   by_cases h0 : k = 0
   ·subst h0
    have hgp : Hid (splK key S (0 + 1) = splK key S 0 ++ [[x]]) := by show _ = _; rw [HSPL.out]; rfl
    obtain ⟨v7, w7, hrun, hg7, hb7, A7, c7, hv7⟩ := HG.out.new HB.out.size (by omega) x
    subst hv7
    have HRUN := Lib.hid hrun
    have HG7 := Lib.hid hg7
    have HB7 := Lib.hid (HB.out.trans hb7)
    clear hrun hg7 hb7
    go_wp2_with (at_builtin; refine wpList_append_run HRUN.out rfl rfl _ _ rfl rfl rfl ?_)
    go_roundw
    case rel => exact ⟨0 + 1, by omega, by go_num, ⟨A7, c7, by rw [hgp.out, List.length_append]; rfl⟩, (by rw [hgp.out]; exact HG7.out), HB7.out⟩
    case measure => simp [intOf]; omega
   ·have hk1 : k - 1 < S.length := by omega
    obtain ⟨b0, -⟩ := (HI.out.up HB.out) (k - 1) hk1
    have hsp := HSPL.out
    rw [if_neg h0, List.getElem?_eq_getElem hk1] at hsp
    have hdy : Hid (dom (S[k - 1]'hk1)) := HDS.out _ (List.getElem_mem _)
    obtain ⟨y, hy⟩ : ∃ y, S[k - 1]'hk1 = y := ⟨_, rfl⟩
    rw [hy] at b0 hsp hdy
    have HSP2 := Lib.hid hsp
    have HXY := Lib.hid (HCV.out y x hdy.out hdx.out)
    obtain ⟨j, rfl⟩ : ∃ j, k = j + 1 := ⟨k - 1, by omega⟩
    have HCALL : Hid (∀ xs, xs = first ++ #[.int .i64 y, .int .i64 x] ++ caps → Calls Try.prog f xs wo (Back (.int .i64 (cv y x)) wo)) := fun xs hx => HCM.out y x hdy.out hdx.out xs wo hx (by
     have := HB2.out; exact this.trans (HB.out.mono this.size))
    obtain ⟨m, hm⟩ : ∃ m, cv y x = m := ⟨_, rfl⟩
    rw [hm] at HXY HCALL
    have e1 : j + 1 - 1 = j := by omega
    rw [e1] at b0
    have hpos : (0 : Int) < ((j + 1 : Nat) : Int) := by omega
    clear hy hsp h0 hm e1 HSPL
    by_cases hkey : key y = key x
    ·obtain rfl : m = 0 := HXY.out.2.2 hkey
     obtain ⟨dd, d, hdd⟩ : ∃ dd d, splK key S (j + 1) = dd ++ [d] := by
      rcases List.eq_nil_or_concat (splK key S (j + 1)) with h | ⟨dd, d, h⟩
      ·exfalso
       have := (HSP.out (j + 1) hk).flat
       rw [h] at this
       have := congrArg List.length this
       rw [List.length_take] at this
       simp at this; omega
      ·exact ⟨dd, d, by rw [h, List.concat_eq_append]⟩
     have hdl2 : d.length ≤ 1000 := by
      have h1 := flat_mem_len (D := splK key S (j + 1)) (d := d) (by rw [hdd]; simp)
      rw [(HSP.out (j + 1) hk).flat, List.length_take] at h1
      omega
     have hgp : Hid (splK key S (j + 1 + 1) = dd ++ [d ++ [x]]) := by
      show _ = _
      rw [HSP2.out, hdd]
      unfold gput
      rw [if_pos (by simpa using hkey)]
      simp
     rw [hdd, List.length_append, List.length_singleton] at hln ⊢
     have HG2 : Hid (GrO w2.heap.size wo (.slice A (dd.length + 1) c') (dd ++ [d])) := by
      have := HG.out
      rw [hdd, List.length_append, List.length_singleton] at this
      exact this
     obtain ⟨gu, A3, n3, c3, c2, hu, -⟩ := HG2.out.last HB.out.size hdl2 x
     injection hu with h1 h2 h3
     subst h1 h3
     clear h2 hkey hdd HG HSP2
     go_upto_region 8 with (refine (HCALL.out _ (by simp)).mono ?_; rintro e w3 ⟨rfl, hb3⟩)
     have HB3 := Lib.hid (HB.out.trans (hb3.mono HB.out.size))
     obtain ⟨gu', A3, n3, c3, c2, hu, hcell, v7, w7, hrun, ⟨z, hz⟩, hfr, hg7, hb7, hs7, A7, n7, c7, hv7⟩ := (HG2.out.up hb3).last HB3.out.size hdl2 x
     injection hu with h1 h2 h3
     injection h1 with h1
     injection h1 with h1
     subst h1 h3 hv7
     have HRUN := Lib.hid hrun
     have HG7 := Lib.hid hg7
     have HB7 := Lib.hid (HB3.out.trans hb7)
     clear h2 hrun hg7 hb7 hb3 HG2 a0 b0
     go_wp2_with (at_builtin; refine wpList_append_run HRUN.out rfl rfl _ _ rfl rfl rfl ?_)
     go_roundw
     case rel => exact ⟨j + 1 + 1, by omega, by go_num, ⟨_, _, by rw [hgp.out, List.length_append]; rfl⟩, (by rw [hgp.out]; exact HG7.out), HB7.out⟩
     case measure => simp [intOf]; omega
    ·have hm0 : (m == 0) = false := by
      rw [beq_eq_false_iff_ne]; intro e; exact hkey (HXY.out.2.1 e)
     have hgp : Hid (splK key S (j + 1 + 1) = splK key S (j + 1) ++ [[x]]) := by
      show _ = _
      rw [HSP2.out]
      unfold gput
      rw [if_neg (by simpa using hkey)]
     clear hkey HSP2
     obtain ⟨N, hN⟩ : ∃ N, (splK key S (j + 1)).length = N := ⟨_, rfl⟩
     have HN := Lib.hid hN
     rw [hN] at hln ⊢
     clear hN
     go_upto_region 9 with (refine (HCALL.out _ (by simp)).mono ?_; rintro e w3 ⟨rfl, hb3⟩)
     have HB3 := Lib.hid (HB.out.trans (hb3.mono HB.out.size))
     obtain ⟨v7, w7, hrun, hg7, hb7, A7, c7, hv7⟩ := (HG.out.up hb3).new HB3.out.size (by rw [HN.out]; omega) x
     rw [HN.out] at hrun hv7
     subst hv7
     have HRUN := Lib.hid hrun
     have HG7 := Lib.hid hg7
     have HB7 := Lib.hid (HB3.out.trans hb7)
     clear hrun hg7 hb7 hb3 HG a0 b0
     go_wp2_with (at_builtin; refine wpList_append_run HRUN.out rfl rfl _ _ rfl rfl rfl ?_)
     go_roundw
     case rel => exact ⟨j + 1 + 1, by omega, by go_num, ⟨A7, c7, by rw [hgp.out, List.length_append, HN.out]; rfl⟩, (by rw [hgp.out]; exact HG7.out), HB7.out⟩
     case measure => simp [intOf]; omega
  ·obtain rfl : k = S.length := by omega
   go_wp2_with fail
   go_ret
   refine ⟨⟨_, rfl, ?_⟩, ?_⟩
   ·rw [← HEND.out]
    refine (HG.out.own (fun d hd => ?_)).le HB2.out.size
    have h1 := flat_mem_len hd
    rw [(HSP.out S.length (Nat.le_refl _)).flat, List.length_take] at h1
    omega
   ·exact HB2.out.trans (HB.out.mono HB2.out.size)
end Go.Proofs.Ytlfbbofcnonhdaa

/- Plain: rows of a table, who has won; in memory. -/
namespace Go.Proofs.Ytlfbbofcnonhdaa
open Go.RowKit Go.Proofs Go.Shelf

/-- A row. -/
structure Rw where
 team : Int
 place : Int
 games : Int
 wins : Int
 fr : Int
 ag : Int
 draws : Int
 len : Int
def eW (r : Rw) : List Value := [.int .i64 r.team, .int .i64 r.place, .int .i64 r.games, .int .i64 r.wins, .int .i64 r.fr, .int .i64 r.ag, .int .i64 r.draws, .int .i64 r.len]
abbrev Rwv (r : Rw) : Value := .agg #[.int .i64 r.team, .int .i64 r.place, .int .i64 r.games, .int .i64 r.wins, .int .i64 r.fr, .int .i64 r.ag, .int .i64 r.draws, .int .i64 r.len]
theorem EW : Enc 8 eW := ⟨fun _ => rfl, fun x v h => by simp [eW] at h; rcases h with rfl | rfl | rfl | rfl | rfl | rfl | rfl | rfl <;> rfl⟩
def sideU (r : Rw) (p q m : Int) : Rw := { r with games := r.games + 1, draws := r.draws + 1, fr := r.fr + p, ag := r.ag + q, len := r.len + m, wins := if q < p then r.wins + 1 else r.wins }
/-- A result's side: the team, its points, the other one's, its measure. -/
def sdT (s : Nat) (x : Re) : Int := if s = 0 then x.a else x.b
def sdP (s : Nat) (x : Re) : Int := if s = 0 then x.p0 else x.p1
def sdM (s : Nat) (x : Re) : Int := if s = 0 then x.m0 else x.m1
/-- A result's first s sides, added to the row of the team t. -/
def addS : Nat → Re → Int → Rw → Rw
 | 0, _, _, r => r
 | s + 1, x, t, r => if t = sdT s x then sideU (addS s x t r) (sdP s x) (sdP (1 - s) x) (sdM s x) else addS s x t r
def addG : Nat → Re → Int → Int → Int
 | 0, _, _, g => g
 | s + 1, x, t, g => if t = sdT s x then max (addG s x t g) (sdM s x) else addG s x t g
def addW : Nat → Re → ((Int × Int) → Option Int) → ((Int × Int) → Option Int)
 | 0, _, m => m
 | s + 1, x, m => if sdP (1 - s) x < sdP s x then upd (addW s x m) (keyR x) (sdT s x) else addW s x m
def rawN (l : List Re) (t : Int) : Rw := l.foldl (fun r x => addS 2 x t r) ⟨t, 0, 0, 0, 0, 0, 0, 0⟩
def gtN (l : List Re) (t : Int) : Int := l.foldl (fun g x => addG 2 x t g) 0
def wonM (l : List Re) : (Int × Int) → Option Int := l.foldl (fun m x => addW 2 x m) (fun _ => none)
def cutR (r : Rw) (g : Int) : Rw := if 3 ≤ r.games then { r with draws := r.draws - 1, len := r.len - g } else r
/-- The row of the team t, without its place. -/
def rowN (l : List Re) (t : Int) : Rw := cutR (rawN l t) (gtN l t)
theorem rawN_snoc (l : List Re) (x : Re) (t : Int) : rawN (l ++ [x]) t = addS 2 x t (rawN l t) := by unfold rawN; rw [List.foldl_append]; rfl
theorem gtN_snoc (l : List Re) (x : Re) (t : Int) : gtN (l ++ [x]) t = addG 2 x t (gtN l t) := by unfold gtN; rw [List.foldl_append]; rfl
theorem wonM_snoc (l : List Re) (x : Re) : wonM (l ++ [x]) = addW 2 x (wonM l) := by unfold wonM; rw [List.foldl_append]; rfl
/-- Bounds of a row. -/
structure RwB (r : Rw) (g : Int) (n : Nat) : Prop where
 g0 : 0 ≤ r.games ∧ r.games ≤ n
 d0 : 0 ≤ r.draws ∧ r.draws ≤ n
 w0 : 0 ≤ r.wins ∧ r.wins ≤ r.games
 f0 : 0 ≤ r.fr ∧ r.fr ≤ 1000 * n
 a0 : 0 ≤ r.ag ∧ r.ag ≤ 1000 * n
 l0 : 0 ≤ r.len ∧ r.len ≤ 100000 * n
 m0 : 0 ≤ g ∧ g ≤ 100000
 ml : g ≤ r.len
 eq : r.draws = r.games
 ml0 : r.games = 0 → r.len = 0
structure ReB (x : Re) : Prop where
 p0 : 0 ≤ x.p0 ∧ x.p0 ≤ 1000
 p1 : 0 ≤ x.p1 ∧ x.p1 ≤ 1000
 m0 : 0 ≤ x.m0 ∧ x.m0 ≤ 100000
 m1 : 0 ≤ x.m1 ∧ x.m1 ≤ 100000
theorem sd_b {x : Re} (h : ReB x) (s : Nat) : (0 ≤ sdP s x ∧ sdP s x ≤ 1000) ∧ (0 ≤ sdM s x ∧ sdM s x ≤ 100000) := by
 have h1 := h.p0; have h2 := h.p1; have h3 := h.m0; have h4 := h.m1
 unfold sdP sdM
 split <;> omega
theorem addS_b {x : Re} (h : ReB x) {r : Rw} {g : Int} {n : Nat} {t : Int} (hb : RwB r g n) : ∀ s, RwB (addS s x t r) (addG s x t g) (n + s)
 | 0 => hb
 | s + 1 => by
  have ih := addS_b h (t := t) hb s
  unfold addS addG
  have h1 := sd_b h s
  have h2 := sd_b h (1 - s)
  obtain ⟨q1, q2, q3, q4, q5, q6, q7, q8, q9, q10⟩ := ih
  split
  ·refine ⟨?_, ?_, ?_, ?_, ?_, ?_, ?_, ?_, ?_, ?_⟩ <;> (try simp only [sideU]) <;> first | omega | (split <;> omega)
  ·exact ⟨by omega, by omega, q3, by omega, by omega, by omega, q7, q8, q9, q10⟩
theorem fold_b : ∀ (l : List Re) (t : Int) (r : Rw) (g : Int) (n : Nat), (∀ x ∈ l, ReB x) → RwB r g n → RwB (l.foldl (fun r x => addS 2 x t r) r) (l.foldl (fun g x => addG 2 x t g) g) (n + 2 * l.length)
 | [], _, _, _, _, _, h => h
 | x :: l, t, r, g, n, hx, h => by
  have h1 := fold_b l t _ _ (n + 2) (fun y hy => hx y (by simp [hy])) (addS_b (hx x (by simp)) (t := t) h 2)
  rw [List.foldl_cons, List.foldl_cons, List.length_cons]
  have e : n + 2 * (l.length + 1) = n + 2 + 2 * l.length := by omega
  rw [e]; exact h1
theorem raw_b (l : List Re) (t : Int) (h : ∀ x ∈ l, ReB x) : RwB (rawN l t) (gtN l t) (2 * l.length) := by
 have := fold_b l t ⟨t, 0, 0, 0, 0, 0, 0, 0⟩ 0 0 h ⟨by simp, by simp, by simp, by simp, by simp, by simp, by simp, by simp, rfl, fun _ => rfl⟩
 rw [Nat.zero_add] at this
 exact this

/-- The teams' rows. -/
def rowsS (T : Nat) (f : Int → Rw) : List Rw := (List.range T).map fun t => f (t : Nat)
def gsS (T : Nat) (f : Int → Int) : List Int := (List.range T).map fun t => f (t : Nat)
theorem rowsS_get {T : Nat} {f : Int → Rw} {j : Nat} (h : j < (rowsS T f).length) : (rowsS T f)[j]'h = f (j : Nat) := by
 have h' := List.getElem_map (f := fun t : Nat => f (t : Int)) (l := List.range T) (i := j) (h := h)
 rw [List.getElem_range] at h'
 exact h'
theorem gsS_get {T : Nat} {f : Int → Int} {j : Nat} (h : j < (gsS T f).length) : (gsS T f)[j]'h = f (j : Nat) := by
 have h' := List.getElem_map (f := fun t : Nat => f (t : Int)) (l := List.range T) (i := j) (h := h)
 rw [List.getElem_range] at h'
 exact h'
theorem rowsS_len (T : Nat) (f : Int → Rw) : (rowsS T f).length = T := by simp [rowsS]
theorem gsS_len (T : Nat) (f : Int → Int) : (gsS T f).length = T := by simp [gsS]
theorem rowsS_set (T : Nat) (f g : Int → Rw) (j : Nat) (h : ∀ t : Nat, t < T → g (t : Nat) = if t = j then g (j : Nat) else f (t : Nat)) : (rowsS T f).set j (g (j : Nat)) = rowsS T g := by
 refine List.ext_getElem (by simp [rowsS]) (fun i h1 h2 => ?_)
 have hi : i < T := by simpa [rowsS] using h2
 rw [List.getElem_set, rowsS_get h2, h i hi]
 by_cases e : j = i
 ·subst e; simp
 ·rw [if_neg e, if_neg (fun h => e h.symm)]
  exact rowsS_get _
theorem gsS_set (T : Nat) (f g : Int → Int) (j : Nat) (h : ∀ t : Nat, t < T → g (t : Nat) = if t = j then g (j : Nat) else f (t : Nat)) : (gsS T f).set j (g (j : Nat)) = gsS T g := by
 refine List.ext_getElem (by simp [gsS]) (fun i h1 h2 => ?_)
 have hi : i < T := by simpa [gsS] using h2
 rw [List.getElem_set, gsS_get h2, h i hi]
 by_cases e : j = i
 ·subst e; simp
 ·rw [if_neg e, if_neg (fun h => e h.symm)]
  exact gsS_get _
theorem flat_set {α : Type} {k : Nat} {enc : α → List Value} (E : Enc k enc) : ∀ (L : List α) (j i : Nat) (u : Value) (y : α) (hj : j < L.length), i < k → enc y = (enc (L[j]'hj)).set i u → (L.flatMap enc).set (j * k + i) u = (L.set j y).flatMap enc
 | a :: L, 0, i, u, y, _, hi, h => by
  have h' : enc y = (enc a).set i u := h
  rw [List.set_cons_zero, List.flatMap_cons, List.flatMap_cons, List.set_append_left _ _ (by rw [E.len]; omega), h']; simp
 | a :: L, j + 1, i, u, y, hj, hi, h => by
  have hk : (j + 1) * k = j * k + k := Nat.succ_mul j k
  rw [List.set_cons_succ, List.flatMap_cons, List.flatMap_cons, List.set_append_right _ _ (by rw [E.len]; omega)]
  have e : (j + 1) * k + i - (enc a).length = j * k + i := by rw [E.len]; omega
  rw [e, flat_set E L j i u y (by simpa using hj) hi (by simpa using h)]
/-- The standings in memory of the call's own, while they are made. -/
structure StI (T n0 : Nat) (W : World) (R : List Rw) (G : List Int) (m : (Int × Int) → Option Int) (N : Nat) : Prop where
 lr : R.length = T
 lg : G.length = T
 s0 : W.cell? ⟨n0 + 1 + 1, 0, none⟩ = some (.slice (some ⟨n0, 0, none⟩) T T)
 s1 : W.cell? ⟨n0 + 1 + 1, 1, none⟩ = some (.map (some (n0 + 1)))
 oR : W.ownsRow n0 58 8 (.slice (some ⟨n0, 0, none⟩) T T) T (R.flatMap eW)
 oG : W.ownsRow n0 3 1 (.slice (some ⟨n0 + 1 + 1 + 1, 0, none⟩) T T) T (G.flatMap eI)
 mp : ∃ n c, n ≤ N ∧ MapF 42 3 kP W2 dI W (n0 + 1) n c m
section
variable {T n0 N : Nat} {W W' : World} {R : List Rw} {G : List Int} {m : (Int × Int) → Option Int}
theorem StI.up (h : StI T n0 W R G m N) (hb : Below W.heap.size W W') : StI T n0 W' R G m N := by
 obtain ⟨n, c, h1, h2⟩ := h.mp
 exact ⟨h.lr, h.lg, upc h.s0 hb, upc h.s1 hb, row_up h.oR hb, row_up h.oG hb, n, c, h1, h2.up hb⟩
theorem StI.lt (h : StI T n0 W R G m N) : n0 + 1 + 1 + 1 < W.heap.size := (h.oG.lt _ rfl).2
theorem StI.row (h : StI T n0 W R G m N) {j : Nat} (hj : j < T) (i : Nat) (hi : i < 8) : W.cell? ⟨n0, j * 8 + i, none⟩ = (eW (R[j]'(by rw [h.lr]; exact hj)))[i]? ∧ W.frozen? ⟨n0, j * 8 + i, none⟩ = false := by
 have hj' : j < R.length := by rw [h.lr]; exact hj
 have h1 : (j + 1) * 8 ≤ T * 8 := Nat.mul_le_mul_right 8 (by omega)
 refine ⟨?_, h.oR.frozenAt _⟩
 rw [h.oR.cellAt _ (by omega), flat_get EW hj' i hi]
theorem StI.gt (h : StI T n0 W R G m N) {j : Nat} (hj : j < T) : W.cell? ⟨n0 + 1 + 1 + 1, j, none⟩ = some (.int .i64 (G[j]'(by rw [h.lg]; exact hj))) ∧ W.frozen? ⟨n0 + 1 + 1 + 1, j, none⟩ = false := by
 have hj' : j < G.length := by rw [h.lg]; exact hj
 refine ⟨?_, h.oG.frozenAt _⟩
 rw [h.oG.cellAt _ (by omega)]
 have := flat_get EI hj' 0 (by omega)
 rw [Nat.mul_one, Nat.add_zero] at this
 rw [this]; rfl
theorem StI.setR (h : StI T n0 W R G m N) {j i : Nat} (hj : j < T) (hi : i < 8) {u : Value} {y : Rw} (hy : eW y = (eW (R[j]'(by rw [h.lr]; exact hj))).set i u) : StI T n0 (W.setCell ⟨n0, j * 8 + i, none⟩ u) (R.set j y) G m N := by
 obtain ⟨n, c, h1, h2⟩ := h.mp
 have hg := grown_set W ⟨n0, j * 8 + i, none⟩ u
 have hs := (h.oR.stored (j * 8 + i) u).1
 rw [flat_set EW R j i u y (by rw [h.lr]; exact hj) hi hy] at hs
 exact ⟨by rw [List.length_set]; exact h.lr, h.lg, hg.cell h.s0 (by intro e; have e' : some (n0 + 1 + 1) = some n0 := e; injection e' with e'; omega), hg.cell h.s1 (by intro e; have e' : some (n0 + 1 + 1) = some n0 := e; injection e' with e'; omega), hs,
  h.oG.kept hg (.inr (by intro e; have e' : some (n0 + 1 + 1 + 1) = some n0 := e; injection e' with e'; omega)), n, c, h1, h2.kept hg (by intro e; have e' : some (n0 + 1) = some n0 := e; injection e' with e'; omega)⟩
theorem StI.setG (h : StI T n0 W R G m N) {j : Nat} (hj : j < T) (y : Int) : StI T n0 (W.setCell ⟨n0 + 1 + 1 + 1, j, none⟩ (.int .i64 y)) R (G.set j y) m N := by
 obtain ⟨n, c, h1, h2⟩ := h.mp
 have hg := grown_set W ⟨n0 + 1 + 1 + 1, j, none⟩ (.int .i64 y)
 have hs := (h.oG.stored j (.int .i64 y)).1
 have e := flat_set EI G j 0 (.int .i64 y) y (by rw [h.lg]; exact hj) (by omega) rfl
 rw [Nat.mul_one, Nat.add_zero] at e
 rw [e] at hs
 exact ⟨h.lr, by rw [List.length_set]; exact h.lg, hg.cell h.s0 (by intro e; have e' : some (n0 + 1 + 1) = some (n0 + 1 + 1 + 1) := e; injection e' with e'; omega), hg.cell h.s1 (by intro e; have e' : some (n0 + 1 + 1) = some (n0 + 1 + 1 + 1) := e; injection e' with e'; omega),
  h.oR.kept hg (.inr (by intro e; have e' : some n0 = some (n0 + 1 + 1 + 1) := e; injection e' with e'; omega)), hs, n, c, h1, h2.kept hg (by intro e; have e' : some (n0 + 1) = some (n0 + 1 + 1 + 1) := e; injection e' with e'; omega)⟩
theorem StI.put (h : StI T n0 W R G m N) (hN : N < 999999) {x y : Int} (hx : W2 (x, y)) {v : Int} (hv : W64 v) :
  ∃ w', (Instr.mapUpdate 115 (.map (some (n0 + 1))) (Pv x y) (.int .i64 v)).run Try.prog W = .ok () w' ∧ StI T n0 w' R G (upd m (x, y) v) (N + 1) ∧ W.grownBy w' (some (n0 + 1)) := by
 obtain ⟨n, c, h1, h2⟩ := h.mp
 obtain ⟨w', r1, r2, hg⟩ := h2.put K42 E3 Try.underlying115 (by omega) hx hv
 exact ⟨w', r1, ⟨h.lr, h.lg, hg.cell h.s0 (by intro e; have e' : some (n0 + 1 + 1) = some (n0 + 1) := e; injection e' with e'; omega), hg.cell h.s1 (by intro e; have e' : some (n0 + 1 + 1) = some (n0 + 1) := e; injection e' with e'; omega),
  h.oR.kept hg (.inr (by intro e; have e' : some n0 = some (n0 + 1) := e; injection e' with e'; omega)), h.oG.kept hg (.inr (by intro e; have e' : some (n0 + 1 + 1 + 1) = some (n0 + 1) := e; injection e' with e'; omega)), n + 1, _, by omega, r2⟩, hg⟩
end
end Go.Proofs.Ytlfbbofcnonhdaa
