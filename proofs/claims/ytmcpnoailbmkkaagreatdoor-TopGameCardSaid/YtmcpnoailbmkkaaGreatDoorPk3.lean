/- Layers of the proofs, joined: R1 Ra Vf Rb Rc Rd Re Rf Rg Rh Shelf Vg Vh Gv G24 Vi Vj Vk Ri Rj Rk Rl Rm Rn Ro Rp Sh. -/
import Derived.Test.YtmcpnoailbmkkaaGreatDoorPk2
import Derived.Sort.CutIn
import Derived.WalkKit
import Derived.Lib.Builder
import Derived.Laws.Externs
import Derived.Shelf.Strings.Builder1
import Derived.Shelf.Strings.Trim
import Derived.Shelf.Small.Utf8
import Derived.Shelf.Small.Bits
import Derived.Shelf.Small.Strs
import Derived.Shelf.Small.Wraps
import Derived.Shelf.Strings.BuilderF
import Derived.Shelf.Strings.BuilderK
import Derived.Shelf.Utf8.RuneCount
import Derived.Shelf.Strconv.Itoa0
import Derived.Shelf.Strconv.Itoa1
import Derived.Shelf.LaysM
import Derived.Shelf.Strconv.Itoa2
import Derived.Shelf.Strconv.Itoa3
import Derived.Shelf.Strconv.Itoa4
import Derived.Shelf.Strconv.ParseIntEmpty
import Derived.Shelf.Strconv.Clone
import Derived.Shelf.Strconv.SyntaxError
import Derived.Shelf.LaysC
import Derived.Shelf.Strconv.ToError
import Derived.Shelf.Strconv.Lower
import Derived.Shelf.Strconv.ParseUint10
import Derived.Shelf.Strconv.ParseUint10Empty
import Derived.Shelf.Strconv.ParseUint10Any
import Derived.Shelf.Strconv.ParseInt10
import Derived.Shelf.Strconv.RangeError
import Derived.Shelf.Strconv.ToErrorRange
import Derived.Shelf.Strconv.ParseUintEmpty
import Derived.Shelf.Strconv.ParseUint10b64
import Derived.Shelf.Strconv.ParseUint10b32
import Derived.Shelf.Strconv.ParseUint10b16
import Derived.Shelf.Strconv.ParseUint10b8
import Derived.Shelf.Strconv.ParseUint10At
import Derived.Shelf.Strconv.ParseInt10At64
import Derived.Shelf.Strconv.ParseInt10At32
import Derived.Shelf.Strconv.ParseInt10At16
import Derived.Shelf.Strconv.ParseInt10At8
import Derived.Shelf.Strconv.ParseInt10All
import Derived.Shelf.Strconv.ParseIntPublic10
import Derived.Shelf.Strconv.ErrVarParseInt
import Derived.Shelf.Strings.Search1
import Derived.Shelf.Strings.Search2
import Derived.Shelf.Strings.Search3
import Derived.Shelf.Strings.Count
import Derived.Shelf.Strings.Shaped
import Derived.Shelf.Sort.Plain
import Derived.Shelf.Strings.Prefix
import Derived.Shelf.Strings.Split
import Derived.Shelf.Strings.SplitShaped
import Derived.Shelf.Unicode.Decode
import Derived.Shelf.Strings.Runes
import Derived.Shelf.Strings.RuneCount
import Derived.Shelf.Strings.AsciiSet
import Derived.Shelf.Strings.Explode
import Derived.Shelf.Unicode.DecodeSlow
import Derived.Shelf.Unicode.DecodeAny
import Derived.Shelf.Unicode.DecodeLast
import Derived.Shelf.Strings.BuilderCap
import Derived.Shelf.Slices.In.SortNone
import Derived.Ground.SlgfProg
import Derived.Shelf.SlicesE.IndexFunc
import Derived.Ground.SlsfProg
import Derived.Shelf.SlSortCmp.Insertion
import Derived.Shelf.SlSortCmp.Insertion1
import Derived.Test.YtmcpnoailbmkkaaGreatDoorProg
import Derived.Lib.VarintMem
import Derived.Lib.ItoaLen
import Derived.Lib.AppendIntMem
import Derived.Lib.ParseIntBTie
import Derived.Lib.AtoiErrMem
import Derived.Lib.IndexLaws
import Derived.Shelf.SlSortCmp.WholeK
import Derived.Shelf.SlGeneric
/- Layers 2 and 7, in plain Lean: stones, positions, codes, throws. (Carried over from the texts of wip/rules by wip/tools/plain.py.) -/
namespace Go.Proofs.YtmcpnoailbmkkaaGreatDoor
open Go Go.RowKit Go.Proofs
def ab (x : Int) : Int := if x < 0 then -x else x
theorem ab_nn (x : Int) : 0 ≤ ab x := by unfold ab; split <;> omega
theorem ab_sq (x : Int) : ab x * ab x = x * x := by
  unfold ab; split
  · rw [Int.neg_mul_neg]
  · rfl
theorem sq_bound {x B : Int} (h : ab x ≤ B) : 0 ≤ x * x ∧ x * x ≤ B * B := by
  rw [← ab_sq]
  have h0 := ab_nn x
  exact ⟨Int.mul_nonneg h0 h0, Int.mul_le_mul h h h0 (by omega)⟩
/-- A place is valid; a stone there is in play. -/
def OkS (x y : Int) : Prop := (-6553600000 ≤ x ∧ x ≤ 6553600000) ∧ -6553600000 ≤ y ∧ y ≤ 6553600000
def Play (x y : Int) : Prop := ab x + 9502720 < 155648000 ∧ -419495936 < y - 9502720 ∧ y - 9502720 ≤ 119865344
instance (x y : Int) : Decidable (OkS x y) := by unfold OkS; infer_instance
instance (x y : Int) : Decidable (Play x y) := by unfold Play; infer_instance
def sqd (x y : Int) : Int := x * x + y * y
def zoneZ (x y : Int) : Int := if Play x y then (if sqd x y ≤ 16736095983108096 then 2 else if y + 9502720 < 0 then 1 else 3) else 0
def InH (x y : Int) : Prop := Play x y ∧ sqd x y ≤ 16736095983108096
instance (x y : Int) : Decidable (InH x y) := by unfold InH; infer_instance
theorem zone_house (x y : Int) : zoneZ x y = 2 ↔ InH x y := by
  unfold zoneZ InH
  constructor
  · intro h; split at h
    · rename_i h1; split at h
      · exact ⟨h1, by assumption⟩
      · split at h <;> omega
    · omega
  · rintro ⟨h1, h2⟩; rw [if_pos h1, if_pos h2]
theorem zone_away (x y : Int) : zoneZ x y = 0 ↔ ¬ Play x y := by
  unfold zoneZ
  constructor
  · intro h h1; rw [if_pos h1] at h; split at h
    · omega
    · split at h <;> omega
  · intro h; rw [if_neg h]
theorem play_bound {x y : Int} (h : Play x y) : ab x ≤ 146145280 ∧ ab y ≤ 409993216 := by
  unfold Play ab at *; split at h <;> split <;> omega
/-- How stones that lie dx, dy apart touch: -1 they overlap, 0 they touch, 1 neither. -/
def touZ (dx dy : Int) : Int := if 19005440 < ab dx ∨ 19005440 < ab dy then 1 else if sqd dx dy < 361206749593600 then -1 else if 361206749593600 < sqd dx dy then 1 else 0
/-- A stone. -/
structure St where
  t : Int
  n : Int
  x : Int
  y : Int
def ovB (a b : St) : Bool := decide (OkS a.x a.y ∧ OkS b.x b.y ∧ touZ (a.x - b.x) (a.y - b.y) = -1)
/-- The first place at which p holds, or -1. -/
def fidx {α : Type} (p : α → Bool) (l : List α) : Int := if l.findIdx p < l.length then (l.findIdx p : Int) else -1
theorem fidx_at {α : Type} {p : α → Bool} {l : List α} {k : Nat} (h : k < l.length) (h1 : p (l[k]'h) = true) (h2 : ∀ j (hj : j < k), p (l[j]'(by omega)) = false) : fidx p l = k := by
  have e : l.findIdx p = k := (List.findIdx_eq h).2 ⟨h1, h2⟩
  unfold fidx; rw [e, if_pos h]
theorem fidx_none {α : Type} {p : α → Bool} {l : List α} (h : ∀ j (hj : j < l.length), p (l[j]'hj) = false) : fidx p l = -1 := by
  have : l.findIdx p = l.length := by
    rw [List.findIdx_eq_length]
    intro x hx
    obtain ⟨j, hj, rfl⟩ := List.getElem_of_mem hx
    exact h j hj
  unfold fidx; rw [this, if_neg (by omega)]
/-- The first pair, from place i on. -/
def pairF {α : Type} (h : α → α → Bool) : List α → Nat → Int × Int
  | [], _ => (-1, -1)
  | a :: l, i => if 0 ≤ fidx (h a) l then ((i : Int), (i : Int) + 1 + fidx (h a) l) else pairF h l (i + 1)
theorem pairF_step {α : Type} {h : α → α → Bool} {l : List α} {k : Nat} (hk : k < l.length) :
    pairF h (l.drop k) k = if 0 ≤ fidx (h (l[k]'hk)) (l.drop (k + 1)) then ((k : Int), (k : Int) + 1 + fidx (h (l[k]'hk)) (l.drop (k + 1))) else pairF h (l.drop (k + 1)) (k + 1) := by
  rw [List.drop_eq_getElem_cons hk]; rfl
def isB (t n : Int) (s : St) : Bool := s.t == t && s.n == n
def nameB (a b : St) : Bool := a.t == b.t && a.n == b.n
def okSt (s : St) : Prop := ((0 ≤ s.t ∧ s.t ≤ 1) ∧ 0 ≤ s.n ∧ s.n ≤ 7) ∧ OkS s.x s.y ∧ Play s.x s.y
instance (s : St) : Decidable (okSt s) := by unfold okSt; infer_instance
/-- Stones are valid, with names that no earlier one has. -/
def goodF : List St → List St → Bool
  | _, [] => true
  | pre, s :: r => decide (okSt s) && pre.all (fun a => !nameB a s) && goodF (pre ++ [s]) r
def chkB (l : List St) : Bool := decide (l.length ≤ 16) && goodF [] l && decide ((pairF ovB l 0).1 < 0)
theorem goodF_step {l : List St} {k : Nat} (hk : k < l.length) :
    goodF (l.take k) (l.drop k) = (decide (okSt (l[k]'hk)) && (l.take k).all (fun a => !nameB a (l[k]'hk)) && goodF (l.take (k + 1)) (l.drop (k + 1))) := by
  rw [List.drop_eq_getElem_cons hk, List.take_succ_eq_append_getElem hk]; rfl
/-- The names of stones, the last one first. -/
def namesR (l : List St) : List (Int × Int) := (l.map fun s => (s.t, s.n)).reverse
theorem namesR_snoc (l : List St) (s : St) : namesR (l ++ [s]) = (s.t, s.n) :: namesR l := by simp [namesR]
theorem namesR_len (l : List St) : (namesR l).length = l.length := by simp [namesR]
theorem names_all (l : List St) (s : St) : l.all (fun a => !nameB a s) = !decide ((s.t, s.n) ∈ namesR l) := by
  rw [Bool.eq_iff_iff]
  simp only [List.all_eq_true, Bool.not_eq_true', decide_eq_false_iff_not, namesR, List.mem_reverse, List.mem_map, not_exists, not_and]
  constructor
  · intro h a ha e
    have := h a ha
    injection e with e1 e2
    simp [nameB, e1, e2] at this
  · intro h a ha
    have := h a ha
    cases hn : nameB a s
    · rfl
    · exfalso
      simp only [nameB, Bool.and_eq_true, beq_iff_eq] at hn
      exact this (by rw [hn.1, hn.2])
theorem good_all {l : List St} : ∀ {k : Nat}, k ≤ l.length → goodF (l.take k) (l.drop k) = true → ∀ j (h : j < l.length), k ≤ j → okSt (l[j]'h) := by
  intro k hk
  induction hn : l.length - k generalizing k with
  | zero => intro _ j h1 h2; omega
  | succ n ih =>
    intro hg j h1 h2
    rw [goodF_step (by omega), Bool.and_eq_true, Bool.and_eq_true] at hg
    by_cases e : j = k
    · subst e; exact of_decide_eq_true hg.1.1
    · exact ih (k := k + 1) (by omega) (by omega) hg.2 j h1 (by omega)
theorem chk_facts {l : List St} (h : chkB l = true) : l.length ≤ 16 ∧ ∀ j (h : j < l.length), okSt (l[j]'h) := by
  unfold chkB at h
  rw [Bool.and_eq_true, Bool.and_eq_true] at h
  exact ⟨of_decide_eq_true h.1.1, fun j hj => good_all (k := 0) (Nat.zero_le _) (by simpa using h.1.2) j hj (Nat.zero_le _)⟩
/-- A code. -/
structure Cd where
  f : Int
  t : Int
  s : Int
  e : Int
  p : Bool
def okN (n : Int) : Bool := decide (0 ≤ n ∧ n ≤ 16)
def ccB (c : Cd) : Bool := okN c.f && okN c.t && okN c.s && decide (1 ≤ c.e ∧ c.e ≤ 8) && (!c.p || decide (c.e ≤ 7))
def zn (x y : Int) : Int := if OkS x y then zoneZ x y else 0
def cen (s : St) : Bool := decide (OkS s.x s.y) && decide (Play s.x s.y ∧ ab s.x ≤ 9502720)
def guB (team : Int) (s : St) : Bool := s.t != team && zn s.x s.y == 1
def kpB (c : Cd) (n team : Int) (s : St) : Bool := decide (n < c.s) || (decide (n < c.f) && guB team s)
def fxB (c : Cd) (n team : Int) (s : St) : Bool := decide (n < c.t) && guB team s && cen s
def eqS (a b : St) : Bool := a.t == b.t && (a.n == b.n && (a.x == b.x && a.y == b.y))
/-- A stone's name, compared. -/
def eqK (x y x' y' : Int) : Bool := x == x' && y == y'
theorem eqS_iff (a b : St) : eqS a b = true ↔ a = b := by
  obtain ⟨a1, a2, a3, a4⟩ := a
  obtain ⟨b1, b2, b3, b4⟩ := b
  simp [eqS]
/-- Two lists are alike. -/
def eqL : List St → List St → Bool
  | [], [] => true
  | a :: l, b :: m => eqS a b && eqL l m
  | _, _ => false
theorem eqL_iff : ∀ (l m : List St), eqL l m = true ↔ l = m
  | [], [] => by simp [eqL]
  | a :: l, b :: m => by simp [eqL, eqS_iff, eqL_iff l m]
  | [], b :: m => by simp [eqL]
  | a :: l, [] => by simp [eqL]
theorem eqL_no {l m : List St} (h : l ≠ m) : eqL l m = false := by
  cases e : eqL l m
  · rfl
  · exact absurd ((eqL_iff l m).1 e) h
theorem eqK_iff (x y x' y' : Int) : eqK x y x' y' = true ↔ x = x' ∧ y = y' := by simp [eqK]
/-- The stone of a name. -/
def lookT (l : List St) (t n : Int) : Option St := l.foldl (fun r s => if eqK s.t s.n t n = true then some s else r) none
theorem lookT_snoc (l : List St) (s : St) (t n : Int) : lookT (l ++ [s]) t n = if eqK s.t s.n t n = true then some s else lookT l t n := by
  unfold lookT; rw [List.foldl_append]; rfl
def bnd (s : St) : Prop := (0 ≤ s.t ∧ s.t ≤ 1) ∧ 0 ≤ s.n ∧ s.n ≤ 7
def kyS (s : St) : Int := s.t * 8 + s.n
/-- A throw, but where the stones came to rest. -/
structure Th where
  team : Int
  n : Int
  late : Bool
  short : Bool
  how : Int
/-- A protected stone is gone. -/
def remB (c : Cd) (n team : Int) (m l : List St) : Bool := l.any (fun s => !(lookT m s.t s.n).isSome && kpB c n team s)
/-- A fixed stone has left the centre line. -/
def movB (c : Cd) (n team : Int) (m l : List St) : Bool := l.any (fun s => (lookT m s.t s.n).isSome && fxB c n team s && !cen ((lookT m s.t s.n).getD ⟨0, 0, 0, 0⟩))
theorem any_snoc (f : St → Bool) (l : List St) (s : St) : (l ++ [s]).any f = (l.any f || f s) := by simp
theorem remB_step (c : Cd) (n team : Int) (m : List St) {l : List St} {k : Nat} (h : k < l.length) : remB c n team m (l.take (k + 1)) = (remB c n team m (l.take k) || (!(lookT m (l[k]'h).t (l[k]'h).n).isSome && kpB c n team (l[k]'h))) := by
  unfold remB; rw [List.take_succ_eq_append_getElem h, any_snoc]
theorem movB_step (c : Cd) (n team : Int) (m : List St) {l : List St} {k : Nat} (h : k < l.length) : movB c n team m (l.take (k + 1)) = (movB c n team m (l.take k) || ((lookT m (l[k]'h).t (l[k]'h).n).isSome && fxB c n team (l[k]'h) && !cen ((lookT m (l[k]'h).t (l[k]'h).n).getD ⟨0, 0, 0, 0⟩))) := by
  unfold movB; rw [List.take_succ_eq_append_getElem h, any_snoc]
/-- The stones, sorted by their names. -/
def srt (l : List St) : List St := l.mergeSort (fun a b => decide (kyS a ≤ kyS b))
theorem srt_perm (l : List St) : (srt l).Perm l := List.mergeSort_perm _ _
theorem srt_pw (l : List St) : (srt l).Pairwise (fun a b => kyS a ≤ kyS b) := by
  have h := List.pairwise_mergeSort (le := fun a b => decide (kyS a ≤ kyS b)) (fun a b c h1 h2 => by simp only [decide_eq_true_eq] at *; omega) (fun a b => by simp only [Bool.or_eq_true, decide_eq_true_eq]; omega) l
  exact h.imp (fun h => by simpa using h)
/-- No two stones of a list have a name in common. -/
def dis (l : List St) : Prop := ∀ a ∈ l, ∀ b ∈ l, a.t = b.t → a.n = b.n → a = b
theorem srt_uniq {l l' : List St} (hb : ∀ s ∈ l, bnd s) (hd : dis l) (hp : l'.Perm l) (hs : l'.Pairwise (fun a b => kyS a ≤ kyS b)) : l' = srt l := by
  refine List.Perm.eq_of_pairwise (le := fun a b => kyS a ≤ kyS b) ?_ hs (srt_pw l) (hp.trans (srt_perm l).symm)
  intro a b ha hb' h1 h2
  have ha' := hp.mem_iff.1 ha
  have hb2 := (srt_perm l).mem_iff.1 hb'
  have k1 := hb a ha'
  have k2 := hb b hb2
  unfold bnd at k1 k2
  unfold kyS at h1 h2
  exact hd a ha' b hb2 (by omega) (by omega)
theorem good_names {l : List St} : ∀ {k : Nat}, k ≤ l.length → goodF (l.take k) (l.drop k) = true → ∀ j (hj : j < l.length), k ≤ j → ∀ i (hi : i < j), nameB (l[i]'(by omega)) (l[j]'hj) = false := by
  intro k hk h j hj hkj
  induction hd : l.length - k generalizing k with
  | zero => omega
  | succ n ih =>
    have hlt : k < l.length := by omega
    rw [goodF_step hlt, Bool.and_eq_true, Bool.and_eq_true] at h
    by_cases e : j = k
    · subst e
      intro i hi
      have h2 := List.all_eq_true.1 h.1.2 (l[i]'(by omega)) (by rw [List.mem_take_iff_getElem]; exact ⟨i, by omega, rfl⟩)
      simpa using h2
    · exact ih (k := k + 1) (by omega) h.2 (by omega) (by omega)
theorem chk_dis {l : List St} (h : chkB l = true) : dis l := by
  unfold chkB at h
  rw [Bool.and_eq_true, Bool.and_eq_true] at h
  have hn := good_names (l := l) (k := 0) (by omega) h.1.2
  intro a ha b hb e1 e2
  obtain ⟨i, hi, rfl⟩ := List.getElem_of_mem ha
  obtain ⟨j, hj, rfl⟩ := List.getElem_of_mem hb
  rcases Nat.lt_trichotomy i j with h3 | h3 | h3
  · have := hn j hj (by omega) i h3
    simp [nameB, e1, e2] at this
  · subst h3; rfl
  · have := hn i hi (by omega) j h3
    simp [nameB, e1, e2] at this
theorem chk_bnd {l : List St} (h : chkB l = true) : ∀ s ∈ l, bnd s := by
  intro s hs
  obtain ⟨j, hj, rfl⟩ := List.getElem_of_mem hs
  have := (chk_facts h).2 j hj
  unfold okSt at this
  exact this.1
theorem srt_len (l : List St) : (srt l).length = l.length := (srt_perm l).length_eq
/-- A throw's parts are valid. -/
def thrA (l m : List St) (x : Th) : Bool := chkB l && chkB m && decide (0 ≤ x.team ∧ x.team ≤ 1) && decide (0 ≤ x.n ∧ x.n ≤ 7) && decide (0 ≤ x.how ∧ x.how ≤ 4)
/-- A throw is valid. -/
def thrB (l m : List St) (x : Th) : Bool :=
  thrA l m x && !(lookT l x.team x.n).isSome && m.all (fun s => (lookT l s.t s.n).isSome || eqK s.t s.n x.team x.n) && (!x.short || eqL (srt l) (srt m))
end Go.Proofs.YtmcpnoailbmkkaaGreatDoor
/- Layer 2: places. (By names: any seat.) -/
namespace Go.Proofs.YtmcpnoailbmkkaaGreatDoor
open Go Go.RowKit Go.Proofs
attribute [local irreducible] J JQ JL JA JD

theorem pNeg {P : Program} {n : Nat} {l : Sl} {o : Oper} {t : TypeId} {x : Operand} {a : Int} (ho : o.op = .unOp .neg t x) (hx : evl l x = some (.int .i64 a)) (ha : -9223372036854775807 ≤ a ∧ a ≤ 9223372036854775807) : RP P n l o (.int .i64 (-a)) := rp1 hx (fun ρ h1 w => by
 have h2 : IntKind.i64.wrap (-a) = -a := wrap64 (by omega)
 unfold execOp
 simp only [ho, h1]
 go_simp)
abbrev Sp (x y : Int) : Value := .agg #[.int .i64 x, .int .i64 y]
theorem sqd_ok {x y : Int} (h : ab x ≤ 146145280 ∧ ab y ≤ 409993216) : (0 ≤ x * x ∧ x * x ≤ 21358442866278400) ∧ 0 ≤ y * y ∧ y * y ≤ 168094437166022656 :=
 ⟨sq_bound h.1, sq_bound h.2⟩
theorem ab_le {x B : Int} : ab x ≤ B ↔ -B ≤ x ∧ x ≤ B := by unfold ab; split <;> omega
theorem ab_max (x : Int) : max x (-x) = ab x := by unfold ab; split <;> omega
set_option maxRecDepth 100000 in
set_option maxHeartbeats 4000000 in
theorem rwithin (n a b : Int) (w : World) : Calls Tryz.prog 27 #[.int .i64 n, .int .i64 a, .int .i64 b] w (Back (.bool (decide (a ≤ n ∧ n ≤ b))) w) := by
 refine J_enter (fun _ => False) (vs := [.int .i64 n, .int .i64 a, .int .i64 b]) (k := 12) (l := [(0, .int .i64 n), (1, .int .i64 a), (2, .int .i64 b)]) Tryz.func27 rfl rfl Tryz.ntmps27 rfl rfl (Wd.start _) ?_
 refine s10 ?_
 refine JL_dec (fun h9 => ?_) (fun h9 => ?_)
 ·refine s4 ?_
  refine JL_dec (fun h13 => ?_) (fun h13 => ?_)
  ·refine s5 ?_
   refine JR_one rfl (rr_tmp rfl) ?_
   intro w' hw
   exact ⟨by congr 2; exact (by first | exact (decide_eq_true (by omega)).symm | exact (decide_eq_false (by omega)).symm), hw.bel⟩
  ·refine s5 ?_
   refine JR_one rfl (rr_tmp rfl) ?_
   intro w' hw
   exact ⟨by congr 2; exact (by first | exact (decide_eq_true (by omega)).symm | exact (decide_eq_false (by omega)).symm), hw.bel⟩
 ·refine s9 ?_
  refine JR_one rfl (rr_tmp rfl) ?_
  intro w' hw
  exact ⟨by congr 2; exact (by first | exact (decide_eq_true (by omega)).symm | exact (decide_eq_false (by omega)).symm), hw.bel⟩
set_option maxRecDepth 100000 in
set_option maxHeartbeats 4000000 in
theorem swithin (n a b : Int) (w : World) : Calls Tryz.prog 82 #[.int .i64 n, .int .i64 a, .int .i64 b] w (Back (.bool (decide (a ≤ n ∧ n ≤ b))) w) := by
 refine J_enter (fun _ => False) (vs := [.int .i64 n, .int .i64 a, .int .i64 b]) (k := 12) (l := [(0, .int .i64 n), (1, .int .i64 a), (2, .int .i64 b)]) Tryz.func82 rfl rfl Tryz.ntmps82 rfl rfl (Wd.start _) ?_
 refine s10 ?_
 refine JL_dec (fun h9 => ?_) (fun h9 => ?_)
 ·refine s4 ?_
  refine JL_dec (fun h13 => ?_) (fun h13 => ?_)
  ·refine s5 ?_
   refine JR_one rfl (rr_tmp rfl) ?_
   intro w' hw
   exact ⟨by congr 2; exact (by first | exact (decide_eq_true (by omega)).symm | exact (decide_eq_false (by omega)).symm), hw.bel⟩
  ·refine s5 ?_
   refine JR_one rfl (rr_tmp rfl) ?_
   intro w' hw
   exact ⟨by congr 2; exact (by first | exact (decide_eq_true (by omega)).symm | exact (decide_eq_false (by omega)).symm), hw.bel⟩
 ·refine s9 ?_
  refine JR_one rfl (rr_tmp rfl) ?_
  intro w' hw
  exact ⟨by congr 2; exact (by first | exact (decide_eq_true (by omega)).symm | exact (decide_eq_false (by omega)).symm), hw.bel⟩
set_option maxRecDepth 100000 in
set_option maxHeartbeats 4000000 in
theorem swithinF (n a b : Int) (w : World) : Calls Tryz.prog 117 #[.int .i64 n, .int .i64 a, .int .i64 b] w (Back (.bool (decide (a ≤ n ∧ n ≤ b))) w) := by
 refine J_enter (fun _ => False) (vs := [.int .i64 n, .int .i64 a, .int .i64 b]) (k := 12) (l := [(0, .int .i64 n), (1, .int .i64 a), (2, .int .i64 b)]) Tryz.func117 rfl rfl Tryz.ntmps117 rfl rfl (Wd.start _) ?_
 refine s10 ?_
 refine JL_dec (fun h9 => ?_) (fun h9 => ?_)
 ·refine s4 ?_
  refine JL_dec (fun h13 => ?_) (fun h13 => ?_)
  ·refine s5 ?_
   refine JR_one rfl (rr_tmp rfl) ?_
   intro w' hw
   exact ⟨by congr 2; exact (by first | exact (decide_eq_true (by omega)).symm | exact (decide_eq_false (by omega)).symm), hw.bel⟩
  ·refine s5 ?_
   refine JR_one rfl (rr_tmp rfl) ?_
   intro w' hw
   exact ⟨by congr 2; exact (by first | exact (decide_eq_true (by omega)).symm | exact (decide_eq_false (by omega)).symm), hw.bel⟩
 ·refine s9 ?_
  refine JR_one rfl (rr_tmp rfl) ?_
  intro w' hw
  exact ⟨by congr 2; exact (by first | exact (decide_eq_true (by omega)).symm | exact (decide_eq_false (by omega)).symm), hw.bel⟩
set_option maxRecDepth 100000 in
set_option maxHeartbeats 4000000 in
theorem CheckSpot_any (x y : Int) (w : World) : Calls Tryz.prog 69 #[Sp x y] w (Back (.bool (decide (OkS x y))) w) := by
 refine J_enter (fun _ => False) (vs := [.agg #[.int .i64 x, .int .i64 y]]) (k := 10) (l := [(0, .agg #[.int .i64 x, .int .i64 y])]) Tryz.func69 rfl rfl Tryz.ntmps69 rfl rfl (Wd.start _) ?_
 refine s2 ?_
 refine aW (oX [_, _]) (fun b1 hb1 => ?_)
 refine s7 ?_
 refine aCB (fun w hw => swithinF _ _ _ w) ?_
 refine JL_dec (fun h5 => ?_) (fun h5 => ?_)
 ·refine s3 ?_
  refine aCB (fun w hw => swithinF _ _ _ w) ?_
  refine JL_dec (fun h9 => ?_) (fun h9 => ?_)
  ·refine s5 ?_
   refine JR_one rfl (rr_tmp rfl) ?_
   intro w' hw
   exact ⟨by congr 2; exact (by first | exact (decide_eq_true (by unfold OkS; omega)).symm | exact (decide_eq_false (by unfold OkS; omega)).symm), hw.bel⟩
  ·refine s5 ?_
   refine JR_one rfl (rr_tmp rfl) ?_
   intro w' hw
   exact ⟨by congr 2; exact (by first | exact (decide_eq_true (by unfold OkS; omega)).symm | exact (decide_eq_false (by unfold OkS; omega)).symm), hw.bel⟩
 ·refine s9 ?_
  refine JR_one rfl (rr_tmp rfl) ?_
  intro w' hw
  exact ⟨by congr 2; exact (by first | exact (decide_eq_true (by unfold OkS; omega)).symm | exact (decide_eq_false (by unfold OkS; omega)).symm), hw.bel⟩
set_option maxRecDepth 100000 in
set_option maxHeartbeats 4000000 in
theorem size_any (x : Int) (hx : -9223372036854775807 ≤ x ∧ x ≤ 9223372036854775807) (w : World) : Calls Tryz.prog 118 #[.int .i64 x] w (Back (.int .i64 (ab x)) w) := by
 refine J_enter (fun _ => False) (vs := [.int .i64 x]) (k := 6) (l := [(0, .int .i64 x)]) Tryz.func118 rfl rfl Tryz.ntmps118 rfl rfl (Wd.start _) ?_
 refine s9 ?_
 refine aP (pNeg rfl rfl hx) ?_
 refine s5 ?_
 refine JR_one rfl (rr_tmp rfl) ?_
 intro w' hw
 exact ⟨by rw [ab_max], hw.bel⟩
set_option maxRecDepth 100000 in
set_option maxHeartbeats 4000000 in
theorem square_any (x y : Int) (h : ab x ≤ 146145280 ∧ ab y ≤ 409993216) (w : World) : Calls Tryz.prog 68 #[Sp x y] w (Back (.int .i64 (sqd x y)) w) := by
 obtain ⟨⟨hx0, hx1⟩, hy0, hy1⟩ := sqd_ok h
 refine J_enter (fun _ => False) (vs := [.agg #[.int .i64 x, .int .i64 y]]) (k := 13) (l := [(0, .agg #[.int .i64 x, .int .i64 y])]) Tryz.func68 rfl rfl Tryz.ntmps68 rfl rfl (Wd.start _) ?_
 refine s2 ?_
 refine aW (oX [_, _]) (fun b1 hb1 => ?_)
 refine s9 ?_
 refine aP (pMul rfl rfl rfl) ?_
 refine s4 ?_
 refine aP (pMul rfl rfl rfl) ?_
 refine aP (pAdd rfl rfl rfl) ?_
 refine s4 ?_
 refine JR_one rfl (rr_tmp rfl) ?_
 intro w' hw
 exact ⟨rfl, hw.bel⟩
set_option maxRecDepth 100000 in
set_option maxHeartbeats 4000000 in
theorem zone_any (x y : Int) (hk : OkS x y) (w : World) : Calls Tryz.prog 70 #[Sp x y] w (Back (.int .i64 (zoneZ x y)) w) := by
 have hk0 := hk
 unfold OkS at hk0
 have hab := ab_nn x
 have hab2 : ab x ≤ 6553600000 := ab_le.2 (by omega)
 refine J_enter (fun _ => False) (vs := [.agg #[.int .i64 x, .int .i64 y]]) (k := 25) (l := [(0, .agg #[.int .i64 x, .int .i64 y])]) Tryz.func70 rfl rfl Tryz.ntmps70 rfl rfl (Wd.start _) ?_
 refine s2 ?_
 refine aW (oX [_, _]) (fun b1 hb1 => ?_)
 refine s10 ?_
 refine aCB (fun w hw => size_any x (by omega) w) ?_
 refine s2 ?_
 refine JL_dec (fun h8 => ?_) (fun h8 => ?_)
 ·refine s8 ?_
  refine kJ [] ?_
  refine s7 ?_
  refine JR_one rfl (rr_tmp rfl) ?_
  intro w' hw
  have e : zoneZ x y = 0 := by unfold zoneZ; rw [if_neg (by unfold Play; omega)]
  rw [e]; exact ⟨rfl, hw.bel⟩
 ·refine s5 ?_
  refine kJ [(1, _)] ?_
  refine s5 ?_
  refine JL_dec (fun h12 => ?_) (fun h12 => ?_)
  ·refine s8 ?_
   refine kJ [] ?_
   refine s7 ?_
   refine JR_one rfl (rr_tmp rfl) ?_
   intro w' hw
   have e : zoneZ x y = 0 := by unfold zoneZ; rw [if_neg (by unfold Play; omega)]
   rw [e]; exact ⟨rfl, hw.bel⟩
  ·refine s4 ?_
   refine kJ [(1, _)] ?_
   refine s5 ?_
   refine JL_dec (fun h16 => ?_) (fun h16 => ?_)
   ·refine s5 ?_
    refine kJ [] ?_
    refine s7 ?_
    refine JR_one rfl (rr_tmp rfl) ?_
    intro w' hw
    have e : zoneZ x y = 0 := by unfold zoneZ; rw [if_neg (by unfold Play; omega)]
    rw [e]; exact ⟨rfl, hw.bel⟩
   ·refine s5 ?_
    have hpl : Play x y := by unfold Play; omega
    refine kJ [(1, _)] ?_
    refine s2 ?_
    refine aCB (fun w hw => square_any x y (play_bound hpl) w) ?_
    refine s1 ?_
    refine JL_dec (fun h20 => ?_) (fun h20 => ?_)
    ·refine s5 ?_
     refine kJ [] ?_
     refine s7 ?_
     refine JR_one rfl (rr_tmp rfl) ?_
     intro w' hw
     have e : zoneZ x y = 2 := by unfold zoneZ; rw [if_pos hpl, if_pos h20]
     rw [e]; exact ⟨rfl, hw.bel⟩
    ·refine s5 ?_
     refine kJ [(1, _)] ?_
     refine s5 ?_
     refine JL_dec (fun h25 => ?_) (fun h25 => ?_)
     ·refine s5 ?_
      refine kJ [] ?_
      refine s7 ?_
      refine JR_one rfl (rr_tmp rfl) ?_
      intro w' hw
      have e : zoneZ x y = 1 := by unfold zoneZ; rw [if_pos hpl, if_neg h20, if_pos h25]
      rw [e]; exact ⟨rfl, hw.bel⟩
     ·refine s8 ?_
      refine kJ [] ?_
      refine s5 ?_
      refine JR_one rfl (rr_tmp rfl) ?_
      intro w' hw
      have e : zoneZ x y = 3 := by unfold zoneZ; rw [if_pos hpl, if_neg h20, if_neg h25]
      rw [e]; exact ⟨rfl, hw.bel⟩
end Go.Proofs.YtmcpnoailbmkkaaGreatDoor
/- strings.Builder at this program. -/
namespace Go.Proofs.YtmcpnoailbmkkaaGreatDoor
open Go Go.RowKit Go.Proofs
theorem cellB_lt {b : Nat} {v : Value} {vs : List Value} {ty : TypeId} {w : World} (h : (cellB b (v :: vs) ty).holds w) : b < w.heap.size := lt_cell (cellB_get h (off := 0) rfl)
theorem sizeB8 : (Tryz.prog.info? 144).map (·.size) = some 2 := by kernel_rfl
theorem liesB8 : liesAt Tryz.prog Tryz.prog.depth 144 (2 / Tryz.prog.cellsOf 144) 0 144 1 = true := by kernel_rfl
set_option maxRecDepth 100000 in
set_option maxHeartbeats 1000000 in
theorem copyCheck_used (b : Nat) (w : World) (h0 : w.cell? ⟨b, 0, none⟩ = some (.pointer (some ⟨b, 0, none⟩))) :
  Calls Tryz.prog 109 #[.pointer (some ⟨b, 0, none⟩)] w fun e w' => e = .returned (.tuple #[]) ∧ w' = w := by
 obtain ⟨j, hj, _⟩ := Option.map_eq_some_iff.1 sizeB8
 go_enter Tryz.func109, Tryz.ntmps109
 go_wp2
 rw [Lib.run_neq_ptr_same w _ Tryz.underlying142 hj]
 go_wp2
 go_end0
 exact ⟨rfl, rfl⟩
set_option maxRecDepth 100000 in
set_option maxHeartbeats 1000000 in
theorem copyCheck_fresh (b : Nat) (w : World) (h0 : w.cell? ⟨b, 0, none⟩ = some (.pointer none)) (hsh : w.shape? b = some (144, 2)) (hfz : w.frozen? ⟨b, 0, none⟩ = false) :
  Calls Tryz.prog 109 #[.pointer (some ⟨b, 0, none⟩)] w fun e w' => e = .returned (.tuple #[]) ∧ w' = w.setCell ⟨b, 0, none⟩ (.pointer (some ⟨b, 0, none⟩)) := by
 obtain ⟨j, hj, hjs⟩ := Option.map_eq_some_iff.1 sizeB8
 go_enter Tryz.func109, Tryz.ntmps109
 go_wp2
 rw [Lib.run_to_unsafe w ⟨b, 0, none⟩ Tryz.underlying142 Tryz.underlying252 hj (by rw [hjs]; decide) hsh (Nat.zero_lt_succ 1)]
 simp only [Result.andThen]
 rw [Oper.upon_value]
 go_wp2
 rw [run_callFunc_extern Tryz.func156 (by kernel_rfl) (by kernel_rfl) (by kernel_rfl) (e := Extern.AbiNoEscape.same) (by kernel_rfl)]
 rw [Lib.run_noEscape]
 simp only [Result.andThen]
 rw [Oper.upon_value]
 go_wp2
 rw [Lib.run_from_unsafe w ⟨b, 0, none⟩ Tryz.underlying252 Tryz.underlying142 hj hsh liesB8]
 simp only [Result.andThen]
 rw [Oper.upon_value]
 go_wp2
 go_end0
 exact ⟨rfl, rfl⟩
/-- A builder: fresh, or in use. -/
theorem copyCheckB (b : Nat) (p sv : Value) (hp : p = .pointer none ∨ p = .pointer (some ⟨b, 0, none⟩)) (w : World) (h : (cellB b [p, sv] 144).holds w) :
  Calls Tryz.prog 109 #[.pointer (some ⟨b, 0, none⟩)] w (RetM (cellB b [p, sv] 144) (fun _ : Unit => True) (fun _ => .tuple #[]) (fun _ => cellB b [.pointer (some ⟨b, 0, none⟩), sv] 144) w) := by
 have hlt : b < w.heap.size := cellB_lt h
 have hs := Wd.startM h (fun k e => by cases e; exact hlt)
 rcases hp with rfl | rfl
 ·refine (copyCheck_fresh b w (cellB_get h rfl) (by have h' : w.heap[b]? = _ := h; simp [World.shape?, h']) (by have h' : w.heap[b]? = _ := h; simp [World.frozen?, h'])).mono ?_
  rintro e w' ⟨rfl, rfl⟩
  have hc : Chg (cellB b [.pointer none, sv] 144) w (w.setCell ⟨b, 0, none⟩ (.pointer (some ⟨b, 0, none⟩))) := by
   have hg := grown_set w ⟨b, 0, none⟩ (.pointer (some ⟨b, 0, none⟩))
   exact ⟨hg.os, hg.tape, hg.output, hg.size, fun k hk hn => hg.block k hk (fun e => hn (by injection e))⟩
  refine ⟨(), trivial, rfl, hs.chg (At.here _) rfl rfl hc ?_ (fun k hk => ⟨.inl hk, ?_⟩)⟩
  ·have h' : w.heap[b]? = some (.cells #[.pointer none, sv] 144 (0, 0)) := h
   show (w.setCell _ _).heap[b]? = some (.cells #[_, sv] 144 (0, 0))
   simp [World.setCell, Array.getElem?_modify, h']
  ·have e : k = b := hk
   subst e
   exact Nat.lt_of_lt_of_le hlt hc.size
 ·refine (copyCheck_used b w (cellB_get h rfl)).mono ?_
  rintro e w' ⟨rfl, rfl⟩
  exact ⟨(), trivial, rfl, hs⟩
theorem cells5 : Tryz.prog.cellsOf 5 = 1 := by kernel_rfl
def eBy (b : UInt8) : List Value := [.int .u8 b.toNat]
theorem EBy : Enc 1 eBy := ⟨fun _ => rfl, fun x v h => by simp [eBy] at h; subst h; rfl⟩
theorem byt_s (A : Option Addr) (c : Nat) (s : ByteArray) : bytB 5 A c s = ownB 5 1 A s.data.toList.length c (s.data.toList.flatMap eBy) := by
 have : Lib.strCells s = s.data.toList.flatMap eBy := by
  unfold Lib.strCells
  induction s.data.toList with
  | nil => rfl
  | cons x l ih => simp only [List.map_cons, List.flatMap_cons, ih]; rfl
 unfold bytB
 rw [this]; rfl
attribute [local irreducible] J JQ JL JA JD

set_option maxRecDepth 100000 in
set_option maxHeartbeats 4000000 in
theorem WriteStr_any (b : Nat) (p : Value) (A : Option Addr) (c : Nat) (s u : ByteArray) (B0 : Bs) (w : World) (hp : p = .pointer none ∨ p = .pointer (some ⟨b, 0, none⟩)) (hl : s.size + u.size ≤ 1000000000) (hW : Wd B0 [cellB b [p, .slice A s.size c] 144, bytB 5 A c s] w) : Calls Tryz.prog 60 #[.pointer (some ⟨b, 0, none⟩), .string u] w (RetL [cellB b [p, .slice A s.size c] 144, bytB 5 A c s] (fun _ : Option Addr × Nat => True) (fun _ => .tuple #[.int .i64 (u.size : Nat), .nilIface]) (fun t => [cellB b [.pointer (some ⟨b, 0, none⟩), .slice t.1 (s ++ u).size t.2] 144, bytB 5 t.1 t.2 (s ++ u)]) w) := by
 refine J_start (B := ⟨w, (allI [cellB b [p, .slice A s.size c] 144, bytB 5 A c s]).foot, none, []⟩) rfl rfl (vs := [.pointer (some ⟨b, 0, none⟩), .string u]) (k := 17) (l := [(0, .pointer (some ⟨b, 0, none⟩)), (1, .string u)]) Tryz.func60 rfl rfl Tryz.ntmps60 rfl rfl (Wd.startL hW) ?_
 refine s9 ?_
 refine aW (oM (fun w hw => copyCheckB b p _ hp w (hw.ok (cellB b [p, .slice A s.size c] 144) (by repeat constructor)).1)) (fun _ _ => ?_)
 refine s3 ?_
 refine kJ [(0, _), (1, _)] ?_
 refine s7 ?_
 refine aS (oAppStr s u hl) (fun A14 c14 => ?_)
 refine s6 ?_
 refine kJ [(1, _)] ?_
 refine s8 ?_
 refine JR_two rfl (rr_tmp rfl) (rr_tmp rfl) ?_
 intro w' hw
 exact ⟨(A14, c14), trivial, rfl, hw.pick (by repeat constructor)⟩
set_option maxRecDepth 100000 in
set_option maxHeartbeats 4000000 in
theorem WriteByte_any (b : Nat) (p : Value) (A : Option Addr) (c : Nat) (s : ByteArray) (x : UInt8) (B0 : Bs) (w : World) (hp : p = .pointer none ∨ p = .pointer (some ⟨b, 0, none⟩)) (hl : s.size ≤ 100000) (hW : Wd B0 [cellB b [p, .slice A s.size c] 144, bytB 5 A c s] w) : Calls Tryz.prog 59 #[.pointer (some ⟨b, 0, none⟩), .int .u8 (x.toNat : Nat)] w (RetL [cellB b [p, .slice A s.size c] 144, bytB 5 A c s] (fun _ : Option Addr × Nat => True) (fun _ => .nilIface) (fun t => [cellB b [.pointer (some ⟨b, 0, none⟩), .slice t.1 (s ++ (⟨#[x]⟩ : ByteArray)).size t.2] 144, bytB 5 t.1 t.2 (s ++ (⟨#[x]⟩ : ByteArray))]) w) := by
 have hl2 : s.data.toList.length ≤ 100000 := hl
 refine J_start (B := ⟨w, (allI [cellB b [p, .slice A s.size c] 144, bytB 5 A c s]).foot, none, []⟩) rfl rfl (vs := [.pointer (some ⟨b, 0, none⟩), .int .u8 (x.toNat : Nat)]) (k := 15) (l := [(0, .pointer (some ⟨b, 0, none⟩)), (1, .int .u8 (x.toNat : Nat))]) Tryz.func59 rfl rfl Tryz.ntmps59 rfl rfl ((show Wd ⟨w, (allI [cellB b [p, .slice A s.size c] 144, bytB 5 A c s]).foot, none, []⟩ [cellB b [p, .slice A s.data.toList.length c] 144, ownB 5 1 A s.data.toList.length c (s.data.toList.flatMap eBy)] w from by rw [← byt_s]; exact Wd.startL hW)) ?_
 refine s8 ?_
 refine aW (oM (fun w hw => copyCheckB b p _ hp w (hw.ok (cellB b [p, .slice A s.data.toList.length c] 144) (by repeat constructor)).1)) (fun _ _ => ?_)
 refine s10 ?_
 refine aW (ow_sliceC (vs := [_]) (ty := 5) rfl rfl (by rfl) rfl rfl (fun _ => by kernel_rfl)) (fun b13 hb13 => ?_)
 refine aS (oApp (sl := 113) EBy (x)) (fun A14 c14 => ?_)
 refine s6 ?_
 refine kJ [] ?_
 refine s5 ?_
 refine JR_one rfl (rr_tmp rfl) ?_
 intro w' hw
 have e1 : (s ++ (⟨#[x]⟩ : ByteArray)).data.toList = s.data.toList ++ [x] := by simp [ByteArray.data_append]
 have e2 : (s ++ (⟨#[x]⟩ : ByteArray)).size = (s.data.toList ++ [x]).length := by rw [← e1]; rfl
 exact ⟨(A14, c14), trivial, rfl, by dsimp only; rw [byt_s A14 c14 (s ++ (⟨#[x]⟩ : ByteArray)), e1, e2]; exact hw.pick (by repeat constructor)⟩
set_option maxRecDepth 100000 in
set_option maxHeartbeats 4000000 in
theorem BString_any (b : Nat) (p : Value) (A : Option Addr) (c : Nat) (s : ByteArray) (B0 : Bs) (w : World) (hW : Wd B0 [cellB b [p, .slice A s.size c] 144, bytB 5 A c s] w) (hA : A = none ∨ c ≠ 0) (hA0 : A = none → s.size = 0) : Calls Tryz.prog 63 #[.pointer (some ⟨b, 0, none⟩)] w (RetL [cellB b [p, .slice A s.size c] 144, bytB 5 A c s] (fun _ : Unit => True) (fun _ => .string s) (fun _ => []) w) := by
 refine J_start (B := ⟨w, (allI [cellB b [p, .slice A s.size c] 144, bytB 5 A c s]).foot, none, []⟩) rfl rfl (vs := [.pointer (some ⟨b, 0, none⟩)]) (k := 13) (l := [(0, .pointer (some ⟨b, 0, none⟩))]) Tryz.func63 rfl rfl Tryz.ntmps63 rfl rfl (Wd.startL hW) ?_
 refine s6 ?_
 refine xDx [0, 1, 2, 3, 5, 6, 7, 8, 9, 4, 10, 11] [] [3, 8] [cellB b [p, .slice A s.size c] 144] ?_
 refine s9 ?_
 refine dV rfl (RP.rv (pSliceData hA)) ?_
 refine dW rfl (oUStr s cells5 (hs := hA0)) (fun _ _ => ?_)
 refine s4 ?_
 refine JR_one rfl (rr_tmp rfl) ?_
 intro w' hw
 exact ⟨(), trivial, rfl, hw.pick (Pk.nil _)⟩
end Go.Proofs.YtmcpnoailbmkkaaGreatDoor
/- Layers 2, 7: zones, codes, what is protected. -/
namespace Go.Proofs.YtmcpnoailbmkkaaGreatDoor
open Go Go.RowKit Go.Proofs
attribute [local irreducible] J JQ JL JA JD

def zoneR (x y : Int) : Value := if OkS x y then .tuple #[.int .i64 (zoneZ x y), .int .i64 0] else .tuple #[.int .i64 0, .int .i64 2]
def onR (x y : Int) : Value := if OkS x y then .tuple #[.bool (decide (Play x y ∧ ab x ≤ 9502720)), .int .i64 0] else .tuple #[.bool false, .int .i64 2]
theorem zoneR_zn (x y : Int) : ∃ k : Int, zoneR x y = .tuple #[.int .i64 (zn x y), .int .i64 k] := by
 unfold zoneR zn
 by_cases h : OkS x y
 ·exact ⟨0, by rw [if_pos h, if_pos h]⟩
 ·exact ⟨2, by rw [if_neg h, if_neg h]⟩
theorem onR_cen (s : St) : ∃ k : Int, onR s.x s.y = .tuple #[.bool (cen s), .int .i64 k] := by
 unfold onR cen
 by_cases h : OkS s.x s.y
 ·exact ⟨0, by rw [if_pos h, decide_eq_true h]; rfl⟩
 ·exact ⟨2, by rw [if_neg h, decide_eq_false h]; rfl⟩
def eT (s : St) : List Value := [.int .i64 s.t, .int .i64 s.n, .int .i64 s.x, .int .i64 s.y]
theorem ET : Enc 4 eT := ⟨fun _ => rfl, fun x v h => by simp [eT] at h; rcases h with rfl | rfl | rfl | rfl <;> rfl⟩
abbrev Stv (s : St) : Value := .agg #[.int .i64 s.t, .int .i64 s.n, .int .i64 s.x, .int .i64 s.y]
abbrev Cdv (c : Cd) : Value := .agg #[.int .i64 c.f, .int .i64 c.t, .int .i64 c.s, .int .i64 c.e, .bool c.p]
abbrev Tnv (c : Cd) (n team : Int) : Value := .agg #[.int .i64 c.f, .int .i64 c.t, .int .i64 c.s, .int .i64 c.e, .bool c.p, .int .i64 n, .int .i64 team]
set_option maxRecDepth 100000 in
set_option maxHeartbeats 4000000 in
theorem Zone_any (x y : Int) (w : World) : Calls Tryz.prog 24 #[Sp x y] w (Back (zoneR x y) w) := by
 refine J_enter (fun _ => False) (vs := [.agg #[.int .i64 x, .int .i64 y]]) (k := 8) (l := [(0, .agg #[.int .i64 x, .int .i64 y])]) Tryz.func24 rfl rfl Tryz.ntmps24 rfl rfl (Wd.start _) ?_
 refine s2 ?_
 refine aW (oX [_, _]) (fun b1 hb1 => ?_)
 refine s6 ?_
 by_cases hk : OkS x y
 ·have hk0 := hk
  unfold OkS at hk0
  refine s2 ?_
  refine aCB (fun w hw => CheckSpot_any x y w) ?_
  refine aDecT ?_ hk
  refine s7 ?_
  refine kJ [(1, _)] ?_
  refine s2 ?_
  refine aCB (fun w hw => zone_any x y hk w) ?_
  refine s5 ?_
  refine JR_two rfl (rr_tmp rfl) (rr_tmp rfl) ?_
  intro w' hw
  exact ⟨by unfold zoneR; rw [if_pos hk], hw.bel⟩
 ·refine s2 ?_
  refine aCB (fun w hw => CheckSpot_any x y w) ?_
  refine aDecF ?_ hk
  refine s5 ?_
  refine kJ [] ?_
  refine s7 ?_
  refine JR_two rfl (rr_tmp rfl) (rr_tmp rfl) ?_
  intro w' hw
  exact ⟨by unfold zoneR; rw [if_neg hk], hw.bel⟩
set_option maxRecDepth 100000 in
set_option maxHeartbeats 4000000 in
theorem OnCentre_any (x y : Int) (w : World) : Calls Tryz.prog 134 #[Sp x y] w (Back (onR x y) w) := by
 refine J_enter (fun _ => False) (vs := [.agg #[.int .i64 x, .int .i64 y]]) (k := 15) (l := [(0, .agg #[.int .i64 x, .int .i64 y])]) Tryz.func134 rfl rfl Tryz.ntmps134 rfl rfl (Wd.start _) ?_
 refine s2 ?_
 refine aW (oX [_, _]) (fun b1 hb1 => ?_)
 refine s6 ?_
 by_cases hk : OkS x y
 ·have hk0 := hk
  unfold OkS at hk0
  refine s2 ?_
  refine aCB (fun w hw => CheckSpot_any x y w) ?_
  refine aDecT ?_ hk
  refine s7 ?_
  refine kJ [(1, _)] ?_
  refine s2 ?_
  refine aCB (fun w hw => zone_any x y hk w) ?_
  refine s1 ?_
  refine JL_dec (fun h9 => ?_) (fun h9 => ?_)
  ·refine s3 ?_
   refine aCB (fun w hw => size_any x (by unfold OkS at hk; omega) w) ?_
   refine s1 ?_
   refine JL_dec (fun h14 => ?_) (fun h14 => ?_)
   ·refine s6 ?_
    refine JR_two rfl (rr_tmp rfl) (rr_tmp rfl) ?_
    intro w' hw
    have e : decide (Play x y ∧ ab x ≤ 9502720) = true := decide_eq_true ⟨(Decidable.not_not.1 (fun h => h9 ((zone_away x y).2 h))), h14⟩
    exact ⟨by unfold onR; rw [if_pos hk, e], hw.bel⟩
   ·refine s6 ?_
    refine JR_two rfl (rr_tmp rfl) (rr_tmp rfl) ?_
    intro w' hw
    have e : decide (Play x y ∧ ab x ≤ 9502720) = false := decide_eq_false (fun h => h14 h.2)
    exact ⟨by unfold onR; rw [if_pos hk, e], hw.bel⟩
  ·refine s11 ?_
   refine JR_two rfl (rr_tmp rfl) (rr_tmp rfl) ?_
   intro w' hw
   have e : decide (Play x y ∧ ab x ≤ 9502720) = false := decide_eq_false (fun h => h9 (fun h0 => (zone_away x y).1 h0 h.1))
   exact ⟨by unfold onR; rw [if_pos hk, e], hw.bel⟩
 ·refine s2 ?_
  refine aCB (fun w hw => CheckSpot_any x y w) ?_
  refine aDecF ?_ hk
  refine s5 ?_
  refine kJ [] ?_
  refine s7 ?_
  refine JR_two rfl (rr_tmp rfl) (rr_tmp rfl) ?_
  intro w' hw
  exact ⟨by unfold onR; rw [if_neg hk], hw.bel⟩
theorem ccB_iff {c : Cd} : ccB c = true ↔ (0 ≤ c.f ∧ c.f ≤ 16) ∧ (0 ≤ c.t ∧ c.t ≤ 16) ∧ (0 ≤ c.s ∧ c.s ≤ 16) ∧ (1 ≤ c.e ∧ c.e ≤ 8) ∧ (c.p = true → c.e ≤ 7) := by
 unfold ccB okN
 obtain ⟨f, t, s, e, p⟩ := c
 cases p <;> simp [and_assoc]
theorem cc_yes {c : Cd} (h : (0 ≤ c.f ∧ c.f ≤ 16) ∧ (0 ≤ c.t ∧ c.t ≤ 16) ∧ (0 ≤ c.s ∧ c.s ≤ 16) ∧ (1 ≤ c.e ∧ c.e ≤ 8) ∧ (c.p = true → c.e ≤ 7)) : true = ccB c := (ccB_iff.2 h).symm
theorem cc_no {c : Cd} (h : ¬ ((0 ≤ c.f ∧ c.f ≤ 16) ∧ (0 ≤ c.t ∧ c.t ≤ 16) ∧ (0 ≤ c.s ∧ c.s ≤ 16) ∧ (1 ≤ c.e ∧ c.e ≤ 8) ∧ (c.p = true → c.e ≤ 7))) : false = ccB c := (Bool.eq_false_iff.2 (fun h' => h (ccB_iff.1 h'))).symm
set_option maxRecDepth 100000 in
set_option maxHeartbeats 4000000 in
theorem central_any (s : St) (w : World) : Calls Tryz.prog 85 #[Stv s] w (Back (.bool (cen s)) w) := by
 obtain ⟨st_, sn, sx, sy⟩ := s
 obtain ⟨k0, hc0⟩ := onR_cen ⟨st_, sn, sx, sy⟩
 refine J_enter (fun _ => False) (vs := [.agg #[.int .i64 st_, .int .i64 sn, .int .i64 sx, .int .i64 sy]]) (k := 11) (l := [(0, .agg #[.int .i64 st_, .int .i64 sn, .int .i64 sx, .int .i64 sy])]) Tryz.func85 rfl rfl Tryz.ntmps85 rfl rfl (Wd.start _) ?_
 refine s2 ?_
 refine aW (oX [_, _, _, _]) (fun b1 hb1 => ?_)
 refine s7 ?_
 refine aCB (fun w hw => (OnCentre_any sx sy w).mono (fun _ _ h => by rw [hc0] at h; exact h)) ?_
 refine s8 ?_
 refine kJ [(3, _)] ?_
 refine s6 ?_
 refine JR_one rfl (rr_tmp rfl) ?_
 intro w' hw
 exact ⟨rfl, hw.bel⟩
end Go.Proofs.YtmcpnoailbmkkaaGreatDoor
/- Layers 2, 7: what is protected; contact; codes. -/
namespace Go.Proofs.YtmcpnoailbmkkaaGreatDoor
open Go Go.RowKit Go.Proofs
attribute [local irreducible] J JQ JL JA JD

theorem guB_iff {team : Int} {s : St} : guB team s = true ↔ s.t ≠ team ∧ zn s.x s.y = 1 := by unfold guB; simp
set_option maxRecDepth 100000 in
set_option maxHeartbeats 4000000 in
theorem guards_any (c : Cd) (n team : Int) (s : St) (w : World) : Calls Tryz.prog 84 #[Tnv c n team, Stv s] w (Back (.bool (guB team s)) w) := by
 obtain ⟨kf, kt, ks, ke, kp⟩ := c
 obtain ⟨st_, sn, sx, sy⟩ := s
 obtain ⟨k0, hc0⟩ := zoneR_zn sx sy
 refine J_enter (fun _ => False) (vs := [.agg #[.int .i64 kf, .int .i64 kt, .int .i64 ks, .int .i64 ke, .bool kp, .int .i64 n, .int .i64 team], .agg #[.int .i64 st_, .int .i64 sn, .int .i64 sx, .int .i64 sy]]) (k := 20) (l := [(0, .agg #[.int .i64 kf, .int .i64 kt, .int .i64 ks, .int .i64 ke, .bool kp, .int .i64 n, .int .i64 team]), (1, .agg #[.int .i64 st_, .int .i64 sn, .int .i64 sx, .int .i64 sy])]) Tryz.func84 rfl rfl Tryz.ntmps84 rfl rfl (Wd.start _) ?_
 refine s2 ?_
 refine aW (oX [_, _, _, _, _, _, _]) (fun b2 hb2 => ?_)
 refine aW (oX [_, _, _, _]) (fun b3 hb3 => ?_)
 refine s7 ?_
 refine aCB (fun w hw => (Zone_any sx sy w).mono (fun _ _ h => by rw [hc0] at h; exact h)) ?_
 refine s8 ?_
 refine kJ [(2, _), (3, _), (5, _)] ?_
 refine s6 ?_
 refine JL_dec (fun h17 => ?_) (fun h17 => ?_)
 ·refine s3 ?_
  refine JL_dec (fun h20 => ?_) (fun h20 => ?_)
  ·refine s5 ?_
   refine JR_one rfl (rr_tmp rfl) ?_
   intro w' hw
   exact ⟨by congr 2; exact (guB_iff.2 ⟨h17, h20⟩).symm, hw.bel⟩
  ·refine s5 ?_
   refine JR_one rfl (rr_tmp rfl) ?_
   intro w' hw
   exact ⟨by congr 2; exact (Bool.eq_false_iff.2 (fun h => by have := guB_iff.1 h; exact h20 this.2)).symm, hw.bel⟩
 ·refine s8 ?_
  refine JR_one rfl (rr_tmp rfl) ?_
  intro w' hw
  exact ⟨by congr 2; exact (Bool.eq_false_iff.2 (fun h => by have := guB_iff.1 h; exact h17 this.1)).symm, hw.bel⟩
set_option maxRecDepth 100000 in
set_option maxHeartbeats 4000000 in
theorem keeps_any (c : Cd) (n team : Int) (s : St) (w : World) : Calls Tryz.prog 31 #[Tnv c n team, Stv s] w (Back (.bool (kpB c n team s)) w) := by
 obtain ⟨kf, kt, ks, ke, kp⟩ := c
 obtain ⟨st_, sn, sx, sy⟩ := s
 refine J_enter (fun _ => False) (vs := [.agg #[.int .i64 kf, .int .i64 kt, .int .i64 ks, .int .i64 ke, .bool kp, .int .i64 n, .int .i64 team], .agg #[.int .i64 st_, .int .i64 sn, .int .i64 sx, .int .i64 sy]]) (k := 22) (l := [(0, .agg #[.int .i64 kf, .int .i64 kt, .int .i64 ks, .int .i64 ke, .bool kp, .int .i64 n, .int .i64 team]), (1, .agg #[.int .i64 st_, .int .i64 sn, .int .i64 sx, .int .i64 sy])]) Tryz.func31 rfl rfl Tryz.ntmps31 rfl rfl (Wd.start _) ?_
 refine s2 ?_
 refine aW (oX [_, _, _, _, _, _, _]) (fun b2 hb2 => ?_)
 refine aW (oX [_, _, _, _]) (fun b3 hb3 => ?_)
 refine s11 ?_
 refine JL_dec (fun h10 => ?_) (fun h10 => ?_)
 ·refine s17 ?_
  refine JR_one rfl (rr_tmp rfl) ?_
  intro w' hw
  exact ⟨by congr 2; unfold kpB; simp [*], hw.bel⟩
 ·refine s7 ?_
  refine JL_dec (fun h17 => ?_) (fun h17 => ?_)
  ·refine s3 ?_
   refine aCB (fun w hw => guards_any ⟨kf, kt, ks, ke, kp⟩ n team ⟨st_, sn, sx, sy⟩ w) ?_
   refine JL_bool (fun h21 => ?_) (fun h21 => ?_)
   ·refine s6 ?_
    refine JR_one rfl (rr_tmp rfl) ?_
    intro w' hw
    exact ⟨by congr 2; unfold kpB; simp [*], hw.bel⟩
   ·refine s6 ?_
    refine JR_one rfl (rr_tmp rfl) ?_
    intro w' hw
    exact ⟨by congr 2; unfold kpB; simp [*], hw.bel⟩
  ·refine s10 ?_
   refine JR_one rfl (rr_tmp rfl) ?_
   intro w' hw
   exact ⟨by congr 2; unfold kpB; simp [*], hw.bel⟩
set_option maxRecDepth 100000 in
set_option maxHeartbeats 4000000 in
theorem fixes_any (c : Cd) (n team : Int) (s : St) (w : World) : Calls Tryz.prog 32 #[Tnv c n team, Stv s] w (Back (.bool (fxB c n team s)) w) := by
 obtain ⟨kf, kt, ks, ke, kp⟩ := c
 obtain ⟨st_, sn, sx, sy⟩ := s
 refine J_enter (fun _ => False) (vs := [.agg #[.int .i64 kf, .int .i64 kt, .int .i64 ks, .int .i64 ke, .bool kp, .int .i64 n, .int .i64 team], .agg #[.int .i64 st_, .int .i64 sn, .int .i64 sx, .int .i64 sy]]) (k := 18) (l := [(0, .agg #[.int .i64 kf, .int .i64 kt, .int .i64 ks, .int .i64 ke, .bool kp, .int .i64 n, .int .i64 team]), (1, .agg #[.int .i64 st_, .int .i64 sn, .int .i64 sx, .int .i64 sy])]) Tryz.func32 rfl rfl Tryz.ntmps32 rfl rfl (Wd.start _) ?_
 refine s2 ?_
 refine aW (oX [_, _, _, _, _, _, _]) (fun b2 hb2 => ?_)
 refine aW (oX [_, _, _, _]) (fun b3 hb3 => ?_)
 refine s11 ?_
 refine JL_dec (fun h10 => ?_) (fun h10 => ?_)
 ·refine s3 ?_
  refine aCB (fun w hw => guards_any ⟨kf, kt, ks, ke, kp⟩ n team ⟨st_, sn, sx, sy⟩ w) ?_
  refine JL_bool (fun h14 => ?_) (fun h14 => ?_)
  ·refine s3 ?_
   refine aCB (fun w hw => central_any ⟨st_, sn, sx, sy⟩ w) ?_
   refine JL_bool (fun h18 => ?_) (fun h18 => ?_)
   ·refine s5 ?_
    refine JR_one rfl (rr_tmp rfl) ?_
    intro w' hw
    exact ⟨by congr 2; unfold fxB; simp [*], hw.bel⟩
   ·refine s5 ?_
    refine JR_one rfl (rr_tmp rfl) ?_
    intro w' hw
    exact ⟨by congr 2; unfold fxB; simp [*], hw.bel⟩
  ·refine s9 ?_
   refine JR_one rfl (rr_tmp rfl) ?_
   intro w' hw
   exact ⟨by congr 2; unfold fxB; simp [*], hw.bel⟩
 ·refine s13 ?_
  refine JR_one rfl (rr_tmp rfl) ?_
  intro w' hw
  exact ⟨by congr 2; unfold fxB; simp [*], hw.bel⟩
end Go.Proofs.YtmcpnoailbmkkaaGreatDoor
/- Layers 2, 7: contact; codes. -/
namespace Go.Proofs.YtmcpnoailbmkkaaGreatDoor
open Go Go.RowKit Go.Proofs
attribute [local irreducible] J JQ JL JA JD

set_option maxRecDepth 100000 in
set_option maxHeartbeats 4000000 in
theorem contact_any (x y u v : Int) (h1 : OkS x y) (h2 : OkS u v) (w : World) : Calls Tryz.prog 133 #[Sp x y, Sp u v] w (Back (.int .i64 (touZ (x - u) (y - v))) w) := by
 have h1k := h1
 have h2k := h2
 unfold OkS at h1k h2k
 obtain ⟨p, hp⟩ : ∃ p, x - u = p := ⟨_, rfl⟩
 obtain ⟨q, hq⟩ : ∃ q, y - v = q := ⟨_, rfl⟩
 have hap := ab_nn p
 have haq := ab_nn q
 rw [hp, hq]
 refine J_enter (fun _ => False) (vs := [.agg #[.int .i64 x, .int .i64 y], .agg #[.int .i64 u, .int .i64 v]]) (k := 35) (l := [(0, .agg #[.int .i64 x, .int .i64 y]), (1, .agg #[.int .i64 u, .int .i64 v])]) Tryz.func133 rfl rfl Tryz.ntmps133 rfl rfl (Wd.start _) ?_
 refine s2 ?_
 refine aW (oX [_, _]) (fun b2 hb2 => ?_)
 refine aW (oX [_, _]) (fun b3 hb3 => ?_)
 refine s4 ?_
 refine xD [0, 1, 2, 3, 4, 5, 6, 7, 8, 9, 10, 11] [1, 3, 6, 8] ?_
 refine s5 ?_
 rw [hp]
 refine s5 ?_
 rw [hq]
 refine s6 ?_
 refine kJ [(5, _), (6, _)] ?_
 refine s2 ?_
 refine aCB (fun w hw => size_any p (by omega) w) ?_
 refine s1 ?_
 refine aCB (fun w hw => size_any q (by omega) w) ?_
 refine s2 ?_
 refine JL_dec (fun h23 => ?_) (fun h23 => ?_)
 ·refine s4 ?_
  refine kJ [] ?_
  refine s6 ?_
  refine JR_one rfl (rr_tmp rfl) ?_
  intro w' hw
  have e : touZ p q = 1 := by unfold touZ sqd; rw [if_pos (by omega)]
  rw [e]; exact ⟨rfl, hw.bel⟩
 ·refine s7 ?_
  have hsp := sq_bound (x := p) (B := 19005440) (by omega)
  have hsq := sq_bound (x := q) (B := 19005440) (by omega)
  refine kJ [(5, _), (6, _)] ?_
  refine s3 ?_
  refine aP (pMul rfl rfl rfl) ?_
  refine s2 ?_
  refine aP (pMul rfl rfl rfl) ?_
  refine aP (pAdd rfl rfl rfl) ?_
  refine s5 ?_
  refine kJ [(7, _)] ?_
  refine s3 ?_
  refine JL_dec (fun h33 => ?_) (fun h33 => ?_)
  ·refine s5 ?_
   refine kJ [] ?_
   refine s7 ?_
   refine JR_one rfl (rr_tmp rfl) ?_
   intro w' hw
   have e : touZ p q = -1 := by unfold touZ sqd; rw [if_neg (by omega), if_pos h33]
   rw [e]; exact ⟨rfl, hw.bel⟩
  ·refine s8 ?_
   refine JL_dec (fun h36 => ?_) (fun h36 => ?_)
   ·refine s5 ?_
    refine kJ [] ?_
    refine s7 ?_
    refine JR_one rfl (rr_tmp rfl) ?_
    intro w' hw
    have e : touZ p q = 1 := by unfold touZ sqd; rw [if_neg (by omega), if_neg (by omega), if_pos (by omega)]
    rw [e]; exact ⟨rfl, hw.bel⟩
   ·refine s8 ?_
    refine kJ [] ?_
    refine s5 ?_
    refine JR_one rfl (rr_tmp rfl) ?_
    intro w' hw
    have e : touZ p q = 0 := by unfold touZ sqd; rw [if_neg (by omega), if_neg (by omega), if_neg (by omega)]
    rw [e]; exact ⟨rfl, hw.bel⟩
set_option maxRecDepth 100000 in
set_option maxHeartbeats 4000000 in
theorem CheckCode_any (c : Cd) (w : World) : Calls Tryz.prog 25 #[Cdv c] w (Back (.bool (ccB c)) w) := by
 obtain ⟨kf, kt, ks, ke, kp⟩ := c
 refine J_enter (fun _ => False) (vs := [.agg #[.int .i64 kf, .int .i64 kt, .int .i64 ks, .int .i64 ke, .bool kp]]) (k := 33) (l := [(0, .agg #[.int .i64 kf, .int .i64 kt, .int .i64 ks, .int .i64 ke, .bool kp])]) Tryz.func25 rfl rfl Tryz.ntmps25 rfl rfl (Wd.start _) ?_
 refine s2 ?_
 refine aW (oX [_, _, _, _, _]) (fun b1 hb1 => ?_)
 refine s12 ?_
 refine aW (ow_sliceC (vs := [_, _, _]) (ty := 3) rfl rfl (by rfl) rfl rfl (fun _ => by kernel_rfl)) (fun b11 hb11 => ?_)
 refine s5 ?_
 refine xL (T := Nat) (fun k => k ≤ 3 ∧ ∀ j, j < k → 0 ≤ ([kf, kt, ks] : List Int).getD j 0 ∧ ([kf, kt, ks] : List Int).getD j 0 ≤ 16) (fun k => [(1, .pointer (some ⟨b1, 0, none⟩)), (11, .slice (some ⟨b11, 0, none⟩) 3 3), (12, .int .i64 3), (13, .int .i64 (k : Nat))]) (fun k => [cellB b11 [.int .i64 kf, .int .i64 kt, .int .i64 ks] 3, cellB b1 [.int .i64 kf, .int .i64 kt, .int .i64 ks, .int .i64 ke, .bool kp] 23]) (fun k => 3 - k) 0 ⟨Nat.zero_le _, fun j h => absurd h (Nat.not_lt_zero _)⟩ ?_
 rintro k ⟨hk, hall⟩
 refine s3 ?_
 refine JL_dec (fun h14 => ?_) (fun h14 => ?_)
 ·refine s9 ?_
  obtain ⟨z, hz, hzk⟩ : ∃ z, ([.int .i64 kf, .int .i64 kt, .int .i64 ks] : List Value)[0 + k * 1 + 0]? = some (.int .i64 z) ∧ ([kf, kt, ks] : List Int).getD k 0 = z := by
   rcases (show k = 0 ∨ k = 1 ∨ k = 2 by omega) with rfl | rfl | rfl
   ·exact ⟨kf, rfl, rfl⟩
   ·exact ⟨kt, rfl, rfl⟩
   ·exact ⟨ks, rfl, rfl⟩
  refine s2 ?_
  refine aV (vCell rfl rfl (by repeat constructor) hz) ?_
  refine s6 ?_
  refine aCB (fun w hw => rwithin _ _ _ w) ?_
  refine JL_dec (fun h18 => ?_) (fun h18 => ?_)
  ·refine s7 ?_
   refine kJ [(1, _), (11, _), (12, _), (13, _)] ?_
   refine s4 ?_
   have hn : ∀ j, j < k + 1 → 0 ≤ ([kf, kt, ks] : List Int).getD j 0 ∧ ([kf, kt, ks] : List Int).getD j 0 ≤ 16 := fun j hj => by
    rcases Nat.lt_or_ge j k with h | h
    ·exact hall j h
    ·obtain rfl : j = k := by omega
     rw [hzk]; exact h18
   exact xR (k + 1) ⟨by omega, hn⟩ (by omega) (hl := ⟨rfl, rfl, rfl, (congrArg some (by go_num)), trivial⟩)
  ·refine s5 ?_
   refine kJ [] ?_
   refine s10 ?_
   refine JR_one rfl (rr_tmp rfl) ?_
   intro w' hw
   exact ⟨by congr 2; exact cc_no (fun ⟨g1, g2, g3, g4, g5⟩ => by dsimp only at g1 g2 g3; rcases (show k = 0 ∨ k = 1 ∨ k = 2 by omega) with rfl | rfl | rfl <;> (simp at hzk; omega)), hw.bel⟩
 ·refine s10 ?_
  obtain rfl : k = 3 := by omega
  refine kJ [(1, _)] ?_
  refine s3 ?_
  refine aCB (fun w hw => rwithin _ _ _ w) ?_
  refine JL_dec (fun h23 => ?_) (fun h23 => ?_)
  ·refine s3 ?_
   refine JL_bool (fun h26 => ?_) (fun h26 => ?_)
   ·refine s5 ?_
    refine JL_dec (fun h31 => ?_) (fun h31 => ?_)
    ·refine s6 ?_
     refine JR_one rfl (rr_tmp rfl) ?_
     intro w' hw
     exact ⟨by congr 2; first | exact cc_yes ⟨hall 0 (by omega), hall 1 (by omega), hall 2 (by omega), by dsimp only; omega, fun hp => by dsimp only at hp ⊢; first | omega | (rw [h26] at hp; cases hp)⟩ | exact cc_no (fun ⟨g1, g2, g3, g4, g5⟩ => by dsimp only at g1 g2 g3 g4 g5; first | omega | (have := g5 h26; omega)), hw.bel⟩
    ·refine s6 ?_
     refine JR_one rfl (rr_tmp rfl) ?_
     intro w' hw
     exact ⟨by congr 2; first | exact cc_yes ⟨hall 0 (by omega), hall 1 (by omega), hall 2 (by omega), by dsimp only; omega, fun hp => by dsimp only at hp ⊢; first | omega | (rw [h26] at hp; cases hp)⟩ | exact cc_no (fun ⟨g1, g2, g3, g4, g5⟩ => by dsimp only at g1 g2 g3 g4 g5; first | omega | (have := g5 h26; omega)), hw.bel⟩
   ·refine s11 ?_
    refine JR_one rfl (rr_tmp rfl) ?_
    intro w' hw
    exact ⟨by congr 2; first | exact cc_yes ⟨hall 0 (by omega), hall 1 (by omega), hall 2 (by omega), by dsimp only; omega, fun hp => by dsimp only at hp ⊢; first | omega | (rw [h26] at hp; cases hp)⟩ | exact cc_no (fun ⟨g1, g2, g3, g4, g5⟩ => by dsimp only at g1 g2 g3 g4 g5; first | omega | (have := g5 h26; omega)), hw.bel⟩
  ·refine s14 ?_
   refine JR_one rfl (rr_tmp rfl) ?_
   intro w' hw
   exact ⟨by congr 2; first | fail | exact cc_no (fun ⟨g1, g2, g3, g4, g5⟩ => by dsimp only at g1 g2 g3 g4 g5; first | omega), hw.bel⟩
end Go.Proofs.YtmcpnoailbmkkaaGreatDoor
/- Layer 2: pairs, Overlap. -/
namespace Go.Proofs.YtmcpnoailbmkkaaGreatDoor
open Go Go.RowKit Go.Proofs
attribute [local irreducible] J JQ JL JA JD

section
variable {P : Program} {n : Nat} {B : Bs} {l : Sl} {H : List It} {o : Oper} {t : TypeId} {x : Operand}
theorem vHoldP {α : Type} {enc : α → List Value} {k m i b p j : Nat} {L : List α} {cs : List Value} [g : Agg P t true] [z : Siz P t m] (ho : o.op = .load t x) (hx : evl l x = some (.pointer (some ⟨b, p + j * k + i, none⟩))) (hm : ¬ B.m b) (hc : HoldL k enc B.w b p L) (hj : j < L.length) (hl : cs.length = m) (hi : i + m ≤ k) (hv : ((enc (L[j]'hj)).drop i).take m = cs) : RV P n B l H o (.agg cs.toArray) :=
 rv_oldagg ho hx g.h (by rw [hl]; exact z.h) hm (fun q v hq => by
  have hqm : q < m := by rw [← hl]; exact (List.getElem?_eq_some_iff.1 hq).1
  have h1 := hc j hj (i + q) (by omega)
  rw [show p + j * k + i + q = p + j * k + (i + q) by omega, h1]
  rw [← hv, List.getElem?_take, if_pos hqm, List.getElem?_drop] at hq
  exact hq)
theorem vOldC {b off : Nat} {cs vs : List Value} {ty : TypeId} [g : Agg P t true] [z : Siz P t cs.length] (ho : o.op = .load t x) (hx : evl l x = some (.pointer (some ⟨b, off, none⟩))) (hm : ¬ B.m b) (hc : (cellB b vs ty).holds B.w) (hv : (vs.drop off).take cs.length = cs) : RV P n B l H o (.agg cs.toArray) :=
 rv_oldagg ho hx g.h z.h hm (fun q v hq => cellB_get hc (by
  have hqm : q < cs.length := (List.getElem?_eq_some_iff.1 hq).1
  rw [← hv, List.getElem?_take, if_pos hqm, List.getElem?_drop] at hq
  exact hq))
end
/-- A predicate of stones, as a closure. -/
def PrT (f : FuncId) (caps : Array Value) (p : St → Bool) (l : List St) (w0 : World) : Prop := ∀ x ∈ l, ∀ W, Below w0.heap.size w0 W → Calls Tryz.prog f (#[] ++ #[Stv x] ++ caps) W (Back (.bool (p x)) W)
theorem PrT.up {f : FuncId} {caps : Array Value} {p : St → Bool} {l : List St} {w w1 : World} (h : PrT f caps p l w) (hb : Below w.heap.size w w1) : PrT f caps p l w1 := fun x hx W hW => h x hx W (hb.trans (hW.mono hb.size))
set_option maxRecDepth 100000 in
set_option maxHeartbeats 4000000 in
theorem IndexFuncT (f : FuncId) (caps : Array Value) (p : St → Bool) (l : List St) (v : Value) (w : World) [hf : Cf Tryz.prog f] (hcl : PrT f caps p l w) (hrow : Arr 4 eT w v l) : Calls Tryz.prog 130 #[v, .func (.func f) #[] caps] w (Back (.int .i64 (fidx p l)) w) := by
 obtain ⟨A, cap, rfl, -, ⟨hl, -⟩, hA⟩ := hrow
 refine J_enter (fun _ => False) (vs := [.slice A l.length cap, .func (.func f) #[] caps]) (k := 17) (l := [(0, .slice A l.length cap), (1, .func (.func f) #[] caps)]) Tryz.func130 rfl rfl Tryz.ntmps130 rfl rfl (Wd.start _) ?_
 refine s14 ?_
 refine xL (T := Nat) (fun k => k ≤ l.length ∧ ∀ j (hj : j < l.length), j < k → p (l[j]'hj) = false) (fun k => [(0, .slice A l.length cap), (1, .func (.func f) #[] caps), (7, .int .i64 (l.length : Nat)), (8, .int .i64 (k : Nat))]) (fun k => []) (fun k => l.length - k) 0 ⟨Nat.zero_le _, fun j _ h => absurd h (Nat.not_lt_zero _)⟩ ?_
 rintro k ⟨hk, hall⟩
 refine s3 ?_
 refine JL_dec (fun h9 => ?_) (fun h9 => ?_)
 ·refine s15 ?_
  have hltx : k < l.length := by omega
  obtain ⟨bx, qx, rfl, hh⟩ := hA (by intro e; subst e; simp at hltx)
  obtain ⟨⟨xt, xn, xx, xy⟩, hx⟩ : ∃ y, l[k]'hltx = y := ⟨_, rfl⟩
  have hmx : (⟨xt, xn, xx, xy⟩ : St) ∈ l := by rw [← hx]; exact List.getElem_mem _
  refine s5 ?_
  refine aV (vHoldA (cs := [.int .i64 xt, .int .i64 xn, .int .i64 xx, .int .i64 xy]) ET rfl rfl (fun h => h) hh hltx (by rw [hx]; rfl)) ?_
  refine aW (ow_callB (ec_val rfl rfl rfl Cf.h) rfl rfl (fun w hw => hcl (⟨xt, xn, xx, xy⟩ : St) hmx w hw.bel)) (fun _ _ => ?_)
  refine JL_bool (fun h16 => ?_) (fun h16 => ?_)
  ·refine s4 ?_
   refine kJ [(5, _)] ?_
   refine s11 ?_
   refine JR_one rfl (rr_tmp rfl) ?_
   intro w' hw
   exact ⟨by rw [fidx_at hltx (by rw [hx]; exact h16) (fun j hj => hall j (by omega) hj)], hw.bel⟩
  ·refine s6 ?_
   refine kJ [(0, _), (1, _), (7, _), (8, _)] ?_
   refine s4 ?_
   have hn : ∀ j (hj : j < l.length), j < k + 1 → p (l[j]'hj) = false := fun j hj hjk => by
    rcases Nat.lt_or_ge j k with h | h
    ·exact hall j hj h
    ·obtain rfl : j = k := by omega
     rw [hx]; exact h16
   exact xR (k + 1) ⟨by omega, hn⟩ (by omega) (hl := ⟨rfl, rfl, rfl, (congrArg some (by go_num)), trivial⟩)
 ·refine s10 ?_
  refine kJ [] ?_
  refine s5 ?_
  refine JR_one rfl (rr_tmp rfl) ?_
  intro w' hw
  exact ⟨by rw [fidx_none (fun j hj => hall j hj (by omega))], hw.bel⟩
set_option maxRecDepth 100000 in
set_option maxHeartbeats 4000000 in
theorem ov_any (a b : St) (w : World) : Calls Tryz.prog 132 #[Stv a, Stv b] w (Back (.bool (ovB a b)) w) := by
 obtain ⟨xt, xn, xx, xy⟩ := a
 obtain ⟨yt, yn, yx, yy⟩ := b
 refine J_enter (fun _ => False) (vs := [.agg #[.int .i64 xt, .int .i64 xn, .int .i64 xx, .int .i64 xy], .agg #[.int .i64 yt, .int .i64 yn, .int .i64 yx, .int .i64 yy]]) (k := 19) (l := [(0, .agg #[.int .i64 xt, .int .i64 xn, .int .i64 xx, .int .i64 xy]), (1, .agg #[.int .i64 yt, .int .i64 yn, .int .i64 yx, .int .i64 yy])]) Tryz.func132 rfl rfl Tryz.ntmps132 rfl rfl (Wd.start _) ?_
 refine s2 ?_
 refine aW (oX [_, _, _, _]) (fun b2 hb2 => ?_)
 refine aW (oX [_, _, _, _]) (fun b3 hb3 => ?_)
 refine s7 ?_
 refine aCB (fun w hw => CheckSpot_any xx xy w) ?_
 refine JL_dec (fun h7 => ?_) (fun h7 => ?_)
 ·refine s3 ?_
  refine aCB (fun w hw => CheckSpot_any yx yy w) ?_
  refine JL_dec (fun h11 => ?_) (fun h11 => ?_)
  ·refine s6 ?_
   refine aCB (fun w hw => contact_any xx xy yx yy h7 h11 w) ?_
   refine s1 ?_
   refine JL_dec (fun h19 => ?_) (fun h19 => ?_)
   ·refine s5 ?_
    refine JR_one rfl (rr_tmp rfl) ?_
    intro w' hw
    exact ⟨by congr 2; exact (decide_eq_true ⟨h7, h11, h19⟩).symm, hw.bel⟩
   ·refine s5 ?_
    refine JR_one rfl (rr_tmp rfl) ?_
    intro w' hw
    exact ⟨by congr 2; exact (decide_eq_false (fun h => h19 h.2.2)).symm, hw.bel⟩
  ·refine s13 ?_
   refine JR_one rfl (rr_tmp rfl) ?_
   intro w' hw
   exact ⟨by congr 2; exact (decide_eq_false (fun h => h11 h.2.1)).symm, hw.bel⟩
 ·refine s17 ?_
  refine JR_one rfl (rr_tmp rfl) ?_
  intro w' hw
  exact ⟨by congr 2; exact (decide_eq_false (fun h => h7 h.1)).symm, hw.bel⟩
instance : Cf Tryz.prog 132 := ⟨fun _ _ => by kernel_rfl⟩
instance : Cf Tryz.prog 175 := ⟨fun _ _ => by kernel_rfl⟩
set_option maxRecDepth 100000 in
set_option maxHeartbeats 4000000 in
theorem pair1_any (a b : St) (b3 b7 : Nat) (w : World) (h1 : (cellB b3 [.func (.func 132) #[] #[]] 238).holds w) (h2 : (cellB b7 (eT a) 43).holds w) : Calls Tryz.prog 175 (#[] ++ #[Stv b] ++ #[.pointer (some ⟨b3, 0, none⟩), .pointer (some ⟨b7, 0, none⟩)]) w (Back (.bool (ovB a b)) w) := by
 obtain ⟨xt, xn, xx, xy⟩ := a
 obtain ⟨yt, yn, yx, yy⟩ := b
 unfold eT at h2
 refine J_enter (fun _ => False) (vs := [.agg #[.int .i64 yt, .int .i64 yn, .int .i64 yx, .int .i64 yy], .pointer (some ⟨b3, 0, none⟩), .pointer (some ⟨b7, 0, none⟩)]) (k := 6) (l := [(0, .agg #[.int .i64 yt, .int .i64 yn, .int .i64 yx, .int .i64 yy]), (1, .pointer (some ⟨b3, 0, none⟩)), (2, .pointer (some ⟨b7, 0, none⟩))]) Tryz.func175 rfl rfl Tryz.ntmps175 rfl rfl (Wd.start _) ?_
 refine s2 ?_
 refine aW (oX [_, _, _, _]) (fun b3 hb3 => ?_)
 refine s5 ?_
 refine aV (vOld rfl rfl (fun h => h) (cellB_get h1 rfl)) ?_
 refine aV (vOldC (cs := [.int .i64 xt, .int .i64 xn, .int .i64 xx, .int .i64 xy]) rfl rfl (fun h => h) h2 rfl) ?_
 refine s1 ?_
 refine aW (ow_callB (ec_val rfl rfl rfl Cf.h) rfl rfl (fun w hw => ov_any (⟨xt, xn, xx, xy⟩ : St) (⟨yt, yn, yx, yy⟩ : St) w)) (fun _ _ => ?_)
 refine s4 ?_
 refine JR_one rfl (rr_tmp rfl) ?_
 intro w' hw
 exact ⟨rfl, hw.bel⟩
theorem pair_pos {l : List St} {k : Nat} (hk : k < l.length) (hall : pairF ovB l 0 = pairF ovB (l.drop k) k) (h : 0 ≤ fidx (ovB (l[k]'hk)) (l.drop (k + 1))) : pairF ovB l 0 = ((k : Int), (k : Int) + 1 + fidx (ovB (l[k]'hk)) (l.drop (k + 1))) := by
 rw [hall, pairF_step hk, if_pos h]
theorem pair_neg {l : List St} {k : Nat} (hk : k < l.length) (hall : pairF ovB l 0 = pairF ovB (l.drop k) k) (h : ¬ 0 ≤ fidx (ovB (l[k]'hk)) (l.drop (k + 1))) : pairF ovB l 0 = pairF ovB (l.drop (k + 1)) (k + 1) := by
 rw [hall, pairF_step hk, if_neg h]
theorem fidx_le {α : Type} (p : α → Bool) (l : List α) : -1 ≤ fidx p l ∧ fidx p l ≤ l.length := by unfold fidx; split <;> omega
set_option maxRecDepth 100000 in
set_option maxHeartbeats 4000000 in
theorem pair_any (l : List St) (v : Value) (w : World) (hrow : Arr 4 eT w v l) (hl9 : l.length ≤ 1000000) : Calls Tryz.prog 131 #[v, .func (.func 132) #[] #[]] w (Back (.tuple #[.int .i64 (pairF ovB l 0).1, .int .i64 (pairF ovB l 0).2]) w) := by
 have hrow0 := hrow
 obtain ⟨A, cap, rfl, -, ⟨hl, -⟩, hA⟩ := hrow
 refine J_enter (fun _ => False) (vs := [.slice A l.length cap, .func (.func 132) #[] #[]]) (k := 28) (l := [(0, .slice A l.length cap), (1, .func (.func 132) #[] #[])]) Tryz.func131 rfl rfl Tryz.ntmps131 rfl rfl (Wd.start _) ?_
 refine s2 ?_
 refine aW (oX [_]) (fun b3 hb3 => ?_)
 refine s13 ?_
 refine xL (T := Nat) (fun k => k ≤ l.length ∧ pairF ovB l 0 = pairF ovB (l.drop k) k) (fun k => [(0, .slice A l.length cap), (3, .pointer (some ⟨b3, 0, none⟩)), (9, .slice A l.length cap), (10, .int .i64 (l.length : Nat)), (11, .int .i64 (k : Nat))]) (fun k => [cellB b3 [.func (.func 132) #[] #[]] 238]) (fun k => l.length - k) 0 ⟨Nat.zero_le _, rfl⟩ ?_
 rintro k ⟨hk, hall⟩
 refine s3 ?_
 refine JL_dec (fun h12 => ?_) (fun h12 => ?_)
 ·refine s9 ?_
  have hltx : k < l.length := by omega
  obtain ⟨bx, qx, rfl, hh⟩ := hA (by intro e; subst e; simp at hltx)
  obtain ⟨⟨xt, xn, xx, xy⟩, hx⟩ : ∃ y, l[k]'hltx = y := ⟨_, rfl⟩
  have hmx : (⟨xt, xn, xx, xy⟩ : St) ∈ l := by rw [← hx]; exact List.getElem_mem _
  refine s3 ?_
  refine aV (vHoldA (cs := [.int .i64 xt, .int .i64 xn, .int .i64 xx, .int .i64 xy]) ET rfl rfl (fun h => h) hh hltx (by rw [hx]; rfl)) ?_
  refine aW oA (fun b7 hb7 => ?_)
  refine s5 ?_
  refine kJ [(0, _), (3, _), (6, _), (7, _), (9, _), (10, _), (11, _)] ?_
  refine s4 ?_
  refine aP (rp_sliceFrom (k := k + 1) rfl rfl rfl Und.h Siz.h (by go_num) (by omega)) ?_
  refine s1 ?_
  refine aCB (fun w hw => (IndexFuncT 175 _ (ovB (⟨xt, xn, xx, xy⟩ : St)) (l.drop (k + 1)) _ w (fun y hy W hW => pair1_any (⟨xt, xn, xx, xy⟩ : St) y b3 b7 W ((hw.up hW).ok (cellB b3 [.func (.func 132) #[] #[]] 238) (by repeat constructor)).1 ((hw.up hW).ok (cellB b7 (eT (⟨xt, xn, xx, xy⟩ : St)) 43) (by repeat constructor)).1) ((hrow0.up ET hw.bel).drop (by omega))).mono (fun _ _ h => h)) ?_
  have hfl := fidx_le (ovB (⟨xt, xn, xx, xy⟩ : St)) (l.drop (k + 1))
  rw [List.length_drop] at hfl
  refine s4 ?_
  refine kJ [(0, _), (3, _), (6, _), (8, _), (9, _), (10, _), (11, _)] ?_
  refine s3 ?_
  refine JL_dec (fun h23 => ?_) (fun h23 => ?_)
  ·refine s4 ?_
   refine kJ [(6, _), (8, _)] ?_
   refine s16 ?_
   refine JR_two rfl (rr_tmp rfl) (rr_tmp rfl) ?_
   intro w' hw
   exact ⟨by rw [pair_pos hltx hall (by rw [hx]; omega), hx], hw.bel⟩
  ·refine s6 ?_
   refine kJ [(0, _), (3, _), (9, _), (10, _), (11, _)] ?_
   refine s4 ?_
   have hn := pair_neg hltx hall (by rw [hx]; omega)
   exact xR (k + 1) ⟨by omega, hn⟩ (by omega) (hl := ⟨rfl, rfl, rfl, rfl, (congrArg some (by go_num)), trivial⟩)
 ·refine s10 ?_
  refine kJ [] ?_
  refine s6 ?_
  refine JR_two rfl (rr_tmp rfl) (rr_tmp rfl) ?_
  intro w' hw
  obtain rfl : k = l.length := by omega
  rw [List.drop_length] at hall
  exact ⟨by rw [hall]; rfl, hw.bel⟩
end Go.Proofs.YtmcpnoailbmkkaaGreatDoor
/- Layer 2: Overlap, Find, Check (document). -/
namespace Go.Proofs.YtmcpnoailbmkkaaGreatDoor
open Go Go.RowKit Go.Proofs
attribute [local irreducible] J JQ JL JA JD

set_option maxRecDepth 100000 in
set_option maxHeartbeats 4000000 in
theorem Overlap_any (l : List St) (v : Value) (w : World) (hrow : Arr 4 eT w v l) (hl9 : l.length ≤ 1000000) : Calls Tryz.prog 83 #[v] w (Back (.tuple #[.int .i64 (pairF ovB l 0).1, .int .i64 (pairF ovB l 0).2]) w) := by
 have hrow0 := hrow
 obtain ⟨A, cap, rfl, -, ⟨hl, -⟩, hA⟩ := hrow
 refine J_enter (fun _ => False) (vs := [.slice A l.length cap]) (k := 7) (l := [(0, .slice A l.length cap)]) Tryz.func83 rfl rfl Tryz.ntmps83 rfl rfl (Wd.start _) ?_
 refine s9 ?_
 refine aCB (fun w hw => pair_any l _ w (hrow0.up ET hw.bel) hl9) ?_
 refine s7 ?_
 refine JR_two rfl (rr_tmp rfl) (rr_tmp rfl) ?_
 intro w' hw
 exact ⟨rfl, hw.bel⟩
end Go.Proofs.YtmcpnoailbmkkaaGreatDoor
/- Layer 2: Check (document). -/
namespace Go.Proofs.YtmcpnoailbmkkaaGreatDoor
open Go Go.RowKit Go.Proofs
attribute [local irreducible] J JQ JL JA JD

theorem good_n1 {l : List St} {k : Nat} {x : St} (hk : k < l.length) (hx : l[k]'hk = x) (h : goodF [] l = goodF (l.take k) (l.drop k)) (h1 : ¬ okSt x) : chkB l = false := by
 unfold chkB
 rw [h, goodF_step hk, hx, decide_eq_false h1]; simp
theorem good_e {l : List St} (h16 : l.length ≤ 16) (h : goodF [] l = goodF (l.take l.length) (l.drop l.length)) : chkB l = decide ((pairF ovB l 0).1 < 0) := by
 unfold chkB
 rw [h, List.drop_length, decide_eq_true h16]
 show (true && true && _) = _
 rfl
theorem chk_big {l : List St} (h : ¬ l.length ≤ 16) : chkB l = false := by unfold chkB; rw [decide_eq_false h]; rfl
end Go.Proofs.YtmcpnoailbmkkaaGreatDoor
/- Layer 2: names as keys; Check. -/
namespace Go.Proofs.YtmcpnoailbmkkaaGreatDoor
open Go Go.RowKit Go.Proofs
attribute [local irreducible] J JQ JL JA JD

/-- A stone's name, as a key. -/
def kN (p : Int × Int) : Value := .agg #[.int .i64 p.1, .int .i64 p.2]
def okN2 (p : Int × Int) : Prop := W64 p.1 ∧ W64 p.2
theorem laidOut : laidOutB Tryz.prog = true := by kernel_rfl
theorem row181 : (181 : TypeId) < Tryz.prog.types.size := of_decide_eq_true (by kernel_rfl)
theorem cells181 : Tryz.prog.cellsOf 181 = 2 := by kernel_rfl
theorem KNS : KeyL Tryz.prog 181 kN okN2 where
 law := Go.Maps.Keyed.of_law (deep_law_laid laidOut (m := 2) (by omega) row181 (by kernel_rfl) (by kernel_rfl))
 key := fun p hp => by
  obtain ⟨x, y⟩ := p
  have h1 := wf64 hp.1
  have h2 := wf64 hp.2
  have hk : Tryz.prog.keyType 181 = true := by kernel_rfl
  have hf : (kN (x, y)).formed Tryz.prog 181 = true := by simp [kN, Value.formed, Tryz.underlying181, cells181]
  have hc3 : Tryz.prog.cellsOf 3 = 1 := by kernel_rfl
  obtain ⟨n, hn⟩ : ∃ n, Tryz.prog.types.size = n + 1 := ⟨410, by kernel_rfl⟩
  unfold keyOf
  rw [Tryz.underlying181]
  simp only [hk, hf, hn, Bool.and_self, if_true]
  refine ⟨.string (keyBytes [.int .i64 x, .int .i64 y]), ?_⟩
  rw [Option.map_eq_some_iff]
  refine ⟨[.int .i64 x, .int .i64 y], ?_, rfl⟩
  dsimp only at h1 h2
  simp [kN, Program.keyLits, Tryz.underlying181, Tryz.underlying3, cells181, hc3, h1, h2, Value.cells]
 inj := fun x y h => by
  obtain ⟨x1, x2⟩ := x
  obtain ⟨y1, y2⟩ := y
  simpa [kN] using h
theorem row159 : (159 : TypeId) < Tryz.prog.types.size := of_decide_eq_true (by kernel_rfl)
theorem cells159 : Tryz.prog.cellsOf 159 = 2 := by kernel_rfl
theorem KNR : KeyL Tryz.prog 159 kN okN2 where
 law := Go.Maps.Keyed.of_law (deep_law_laid laidOut (m := 2) (by omega) row159 (by kernel_rfl) (by kernel_rfl))
 key := fun p hp => by
  obtain ⟨x, y⟩ := p
  have h1 := wf64 hp.1
  have h2 := wf64 hp.2
  have hk : Tryz.prog.keyType 159 = true := by kernel_rfl
  have hf : (kN (x, y)).formed Tryz.prog 159 = true := by simp [kN, Value.formed, Tryz.underlying159, cells159]
  have hc3 : Tryz.prog.cellsOf 3 = 1 := by kernel_rfl
  obtain ⟨n, hn⟩ : ∃ n, Tryz.prog.types.size = n + 1 := ⟨410, by kernel_rfl⟩
  unfold keyOf
  rw [Tryz.underlying159]
  simp only [hk, hf, hn, Bool.and_self, if_true]
  refine ⟨.string (keyBytes [.int .i64 x, .int .i64 y]), ?_⟩
  rw [Option.map_eq_some_iff]
  refine ⟨[.int .i64 x, .int .i64 y], ?_, rfl⟩
  dsimp only at h1 h2
  simp [kN, Program.keyLits, Tryz.underlying159, Tryz.underlying3, cells159, hc3, h1, h2, Value.cells]
 inj := fun x y h => by
  obtain ⟨x1, x2⟩ := x
  obtain ⟨y1, y2⟩ := y
  simpa [kN] using h
theorem good_sN {l : List St} {k : Nat} {x : St} (hk : k < l.length) (hx : l[k]'hk = x) (h : goodF [] l = goodF (l.take k) (l.drop k)) (h1 : okSt x) (h2 : (x.t, x.n) ∉ namesR (l.take k)) : goodF [] l = goodF (l.take (k + 1)) (l.drop (k + 1)) := by
 rw [h, goodF_step hk, hx, decide_eq_true h1, names_all, decide_eq_false h2]; rfl
theorem good_nN {l : List St} {k : Nat} {x : St} (hk : k < l.length) (hx : l[k]'hk = x) (h : goodF [] l = goodF (l.take k) (l.drop k)) (h2 : (x.t, x.n) ∈ namesR (l.take k)) : chkB l = false := by
 unfold chkB
 rw [h, goodF_step hk, hx, names_all, decide_eq_true h2]; simp
theorem names_s {l : List St} {k : Nat} {x : St} (hk : k < l.length) (hx : l[k]'hk = x) : namesR (l.take (k + 1)) = (x.t, x.n) :: namesR (l.take k) := by
 rw [List.take_succ_eq_append_getElem hk, namesR_snoc, hx]
@[reducible] instance (priority := high) beqNN : BEq (Int × Int) := instBEqOfDecidableEq
set_option maxRecDepth 100000 in
set_option maxHeartbeats 4000000 in
theorem Check_any (l : List St) (v : Value) (w : World) (hrow : Arr 4 eT w v l) : Calls Tryz.prog 29 #[v] w (Back (.bool (chkB l)) w) := by
 have hrow0 := hrow
 obtain ⟨A, cap, rfl, -, ⟨hl, -⟩, hA⟩ := hrow
 refine J_enter (fun _ => False) (vs := [.slice A l.length cap]) (k := 60) (l := [(0, .slice A l.length cap)]) Tryz.func29 rfl rfl Tryz.ntmps29 rfl rfl (Wd.start _) ?_
 refine s11 ?_
 refine JL_dec (fun h11 => ?_) (fun h11 => ?_)
 ·refine s4 ?_
  refine kJ [] ?_
  refine s6 ?_
  refine JR_one rfl (rr_tmp rfl) ?_
  intro w' hw
  exact ⟨by rw [chk_big (by omega)], hw.bel⟩
 ·refine s6 ?_
  refine kJ [(0, _)] ?_
  refine s1 ?_
  refine aW (ow_makeSet (kt := 181) (kv := kN) (ok := okN2) rfl rfl rfl (fun _ => by kernel_rfl)) (fun b12 hb12 => ?_)
  refine s12 ?_
  refine xL (T := Nat) (fun k => k ≤ l.length ∧ goodF [] l = goodF (l.take k) (l.drop k)) (fun k => [(0, .slice A l.length cap), (3, .map (some b12)), (13, .slice A l.length cap), (14, .int .i64 (l.length : Nat)), (15, .int .i64 (k : Nat))]) (fun k => [setB Tryz.prog 181 kN okN2 b12 (namesR (l.take k))]) (fun k => l.length - k) 0 ⟨Nat.zero_le _, rfl⟩ ?_ (hH := by (try dsimp only); rw [show namesR (l.take 0) = [] from rfl]; repeat constructor)
  rintro k ⟨hk, hall⟩
  refine s3 ?_
  refine JL_dec (fun h16 => ?_) (fun h16 => ?_)
  ·refine s9 ?_
   have hltx : k < l.length := by omega
   obtain ⟨bx, qx, rfl, hh⟩ := hA (by intro e; subst e; simp at hltx)
   obtain ⟨⟨xt, xn, xx, xy⟩, hx⟩ : ∃ y, l[k]'hltx = y := ⟨_, rfl⟩
   have hmx : (⟨xt, xn, xx, xy⟩ : St) ∈ l := by rw [← hx]; exact List.getElem_mem _
   refine s2 ?_
   refine aV (vHoldA (cs := [.int .i64 xt, .int .i64 xn, .int .i64 xx, .int .i64 xy]) ET rfl rfl (fun h => h) hh hltx (by rw [hx]; rfl)) ?_
   refine aW oA (fun b5 hb5 => ?_)
   refine s9 ?_
   refine aP (rp_buildC (fun us => [us.getD 0 undef, us.getD 1 undef]) rfl rfl (fun w => by kernel_rfl)) ?_
   refine aW oA (fun b6 hb6 => ?_)
   refine s5 ?_
   refine kJ [(0, _), (3, _), (5, _), (6, _), (13, _), (14, _), (15, _)] ?_
   refine s3 ?_
   refine aCB (fun w hw => swithin _ _ _ w) ?_
   refine JL_dec (fun h26 => ?_) (fun h26 => ?_)
   ·refine s4 ?_
    refine aCB (fun w hw => swithin _ _ _ w) ?_
    refine JL_dec (fun h31 => ?_) (fun h31 => ?_)
    ·refine s5 ?_
     refine aCB (fun w hw => CheckSpot_any xx xy w) ?_
     refine JL_dec (fun h37 => ?_) (fun h37 => ?_)
     ·refine s5 ?_
      refine aCB (fun w hw => zone_any xx xy h37 w) ?_
      refine s1 ?_
      refine JL_dec (fun h44 => ?_) (fun h44 => ?_)
      ·refine s10 ?_
       refine kJ [] ?_
       refine s11 ?_
       refine JR_one rfl (rr_tmp rfl) ?_
       intro w' hw
       exact ⟨by rw [good_n1 hltx hx hall (fun h => (zone_away _ _).1 h44 h.2.2)], hw.bel⟩
      ·refine s4 ?_
       refine aV (rv_lookS KNS LBool (xt, xn) Und.h rfl rfl rfl (by repeat constructor) rfl ⟨by unfold W64; dsimp only; omega, by unfold W64; dsimp only; omega⟩) ?_
       refine JL_dec (fun h49 => ?_) (fun h49 => ?_)
       ·refine s5 ?_
        refine kJ [] ?_
        refine s11 ?_
        refine JR_one rfl (rr_tmp rfl) ?_
        intro w' hw
        exact ⟨by rw [good_nN hltx hx hall h49], hw.bel⟩
       ·refine s6 ?_
        refine kJ [(0, _), (3, _), (6, _), (13, _), (14, _), (15, _)] ?_
        refine s3 ?_
        refine aW0 (ow_putS KNS LBool (xt, xn) Und.h rfl rfl rfl rfl rfl rfl rfl (by repeat constructor) ⟨by unfold W64; dsimp only; omega, by unfold W64; dsimp only; omega⟩ (by rw [namesR_len, List.length_take]; omega)) ?_
        refine s7 ?_
        have hn := good_sN hltx hx hall ⟨⟨h26, h31⟩, h37, (Decidable.not_not.1 (fun h => h44 ((zone_away _ _).2 h)))⟩ h49
        have hs := names_s hltx hx
        dsimp only at hs
        exact xR (k + 1) ⟨by omega, hn⟩ (by omega) (hl := ⟨rfl, rfl, rfl, rfl, (congrArg some (by go_num)), trivial⟩) (hH := by (try dsimp only); rw [hs]; repeat constructor)
     ·refine s17 ?_
      refine kJ [] ?_
      refine s11 ?_
      refine JR_one rfl (rr_tmp rfl) ?_
      intro w' hw
      exact ⟨by rw [good_n1 hltx hx hall (fun h => h37 h.2.1)], hw.bel⟩
    ·refine s23 ?_
     refine kJ [] ?_
     refine s11 ?_
     refine JR_one rfl (rr_tmp rfl) ?_
     intro w' hw
     exact ⟨by rw [good_n1 hltx hx hall (fun h => h31 h.1.2)], hw.bel⟩
   ·refine s28 ?_
    refine kJ [] ?_
    refine s11 ?_
    refine JR_one rfl (rr_tmp rfl) ?_
    intro w' hw
    exact ⟨by rw [good_n1 hltx hx hall (fun h => h26 h.1.1)], hw.bel⟩
  ·refine s10 ?_
   refine kJ [(0, _)] ?_
   refine s2 ?_
   refine aCB (fun w hw => Overlap_any l _ w (hrow0.up ET hw.bel) (by omega)) ?_
   refine s8 ?_
   refine kJ [(7, _)] ?_
   refine s7 ?_
   refine JR_one rfl (rr_tmp rfl) ?_
   intro w' hw
   obtain rfl : k = l.length := by omega
   exact ⟨by rw [good_e (by omega) hall], hw.bel⟩
end Go.Proofs.YtmcpnoailbmkkaaGreatDoor
/-
  DERIVED: THE SHELF's CONTRACTS AT THIS DUMP, IN PLAIN WORDS (tools/lay-plain.mjs out of 'TryzShelf.lean', which tools/lay-shelf.mjs wrote): THE SAME DECLARATIONS UNDER THE SAME NAMES: 'import', 'namespace', 'open', 'def', 'theorem' AND NOTHING ELSE: no command of the shelf's: FOR A HAND-IN. Each laying: the table of numbers ('.._ren') and one theorem, a field a fact of the dump's own or the kernel's comparison; each contract: ONE APPLICATION.
-/
namespace Go.Proofs
open Go.Shelf
def Tryz.lays137_ren : Go.Shelf.Ren := ⟨fun | 137 => 228 | 217 => 254 | 266 => 283 | n => n, fun | 9 => 9 | 5 => 5 | 3 => 3 | n => n, fun | n => n⟩
theorem Tryz.lays137 : Go.Proofs.Lays.n137 Tryz.prog Tryz.lays137_ren := {
  mixed := by kernel_rfl
  f137 := Tryz.func228.trans (congrArg some (by kernel_rfl))
  f217 := Tryz.func254.trans (congrArg some (by kernel_rfl))
  f266 := Tryz.func283.trans (congrArg some (by kernel_rfl))
  t3 := Tryz.underlying3
  a3 := Tryz.isAgg3
  z3 := Tryz.sizeOf3
  v3 := Tryz.zeroValue3
  t5 := Tryz.underlying5
  a5 := Tryz.isAgg5
  z5 := Tryz.sizeOf5
  v5 := Tryz.zeroValue5
  t9 := Tryz.underlying9
  a9 := Tryz.isAgg9
  z9 := Tryz.sizeOf9
  v9 := Tryz.zeroValue9 }
open Go.RowKit in
/-- strings.IndexByte: "IndexByte returns the index of the first instance of c in s, or -1 if c is not present in s.": IT RETURNS 'Lib.indexByte s c'; the world is as it was. (LAID: no walk: one application.) -/
theorem Tryz.strings_IndexByte (s : ByteArray) (c : Int) (w : World) :
    Calls Tryz.prog 228 #[.string s, .int .u8 c] w fun e w' => e = .returned (.int .i64 (Lib.indexByte s.data.toList c.toNat.toUInt8)) ∧ w' = w := Any.strings_IndexByte Tryz.lays137 s c w
def Tryz.lays104_ren : Go.Shelf.Ren := ⟨fun | 104 => 191 | 211 => 226 | 207 => 252 | n => n, fun | 9 => 9 | 4 => 4 | 24 => 290 | 3 => 3 | n => n, fun | n => n⟩
theorem Tryz.lays104 : Go.Proofs.Lays.n104 Tryz.prog Tryz.lays104_ren := {
  mixed := by kernel_rfl
  f104 := Tryz.func191.trans (congrArg some (by kernel_rfl))
  f207 := Tryz.func252.trans (congrArg some (by kernel_rfl))
  f211 := Tryz.func226.trans (congrArg some (by kernel_rfl))
  t3 := Tryz.underlying3
  a3 := Tryz.isAgg3
  z3 := Tryz.sizeOf3
  v3 := Tryz.zeroValue3
  t4 := Tryz.underlying4
  a4 := Tryz.isAgg4
  z4 := Tryz.sizeOf4
  v4 := Tryz.zeroValue4
  t9 := Tryz.underlying9
  a9 := Tryz.isAgg9
  z9 := Tryz.sizeOf9
  v9 := Tryz.zeroValue9
  t24 := Tryz.underlying290
  a24 := Tryz.isAgg290
  z24 := Tryz.sizeOf290
  v24 := Tryz.zeroValue290 }
open Go.RowKit in
/-- strings.CutSuffix: "CutSuffix returns s without the provided ending suffix string and reports whether it found the suffix. If s doesn't end with suffix, CutSuffix returns s, false. If suffix is the empty string, CutSuffix returns s, true.": IT RETURNS '(Lib.trimSuffix s p, Lib.hasSuffix s p)'; the world is as it was. (LAID: no walk: one application.) -/
theorem Tryz.strings_CutSuffix (s p : ByteArray) (w : World) (hs : s.size ≤ 9223372036854775807) :
    Calls Tryz.prog 191 #[.string s, .string p] w fun e w' => e = .returned (.tuple #[.string ⟨(Lib.trimSuffix s.data.toList p.data.toList).toArray⟩, .bool (Lib.hasSuffix s.data.toList p.data.toList)]) ∧ w' = w := Any.strings_CutSuffix Tryz.lays104 s p w hs
def Tryz.laysM171_ren : Go.Shelf.Ren := ⟨fun | 171 => 61 | 243 => 110 | 246 => 111 | 283 => 157 | 284 => 158 | 285 => 159 | 286 => 160 | 129 => 186 | 317 => 185 | 318 => 187 | 319 => 188 | 320 => 189 | 337 => 223 | 338 => 224 | n => n, fun | 3 => 3 | 9 => 9 | 2 => 2 | 4 => 4 | 171 => 254 | 0 => 0 | 53 => 255 | 37 => 113 | 5 => 5 | 173 => 258 | 212 => 286 | 51 => 287 | 20 => 20 | 213 => 288 | 46 => 275 | 232 => 351 | 233 => 352 | n => n, fun | 17 => 0 | 18 => 3 | 19 => 4 | n => n⟩
theorem Tryz.laysM171 : Go.Proofs.LaysM.n171 Tryz.prog Tryz.laysM171_ren := {
  mixed := by kernel_rfl
  f129 := Tryz.func186.trans (congrArg some (by kernel_rfl))
  f171 := Tryz.func61.trans (congrArg some (by kernel_rfl))
  f243 := Tryz.func110.trans (congrArg some (by kernel_rfl))
  f246 := Tryz.func111.trans (congrArg some (by kernel_rfl))
  f283 := Tryz.func157.trans (congrArg some (by kernel_rfl))
  f284 := Tryz.func158.trans (congrArg some (by kernel_rfl))
  f285 := Tryz.func159.trans (congrArg some (by kernel_rfl))
  f286 := Tryz.func160.trans (congrArg some (by kernel_rfl))
  f317 := Tryz.func185.trans (congrArg some (by kernel_rfl))
  f318 := Tryz.func187.trans (congrArg some (by kernel_rfl))
  f319 := Tryz.func188.trans (congrArg some (by kernel_rfl))
  f320 := Tryz.func189.trans (congrArg some (by kernel_rfl))
  f337 := Tryz.func223.trans (congrArg some (by kernel_rfl))
  f338 := Tryz.func224.trans (congrArg some (by kernel_rfl))
  t0 := Tryz.underlying0
  a0 := Tryz.isAgg0
  z0 := Tryz.sizeOf0
  v0 := Tryz.zeroValue0
  t2 := Tryz.underlying2
  a2 := Tryz.isAgg2
  z2 := Tryz.sizeOf2
  v2 := Tryz.zeroValue2
  t3 := Tryz.underlying3
  a3 := Tryz.isAgg3
  z3 := Tryz.sizeOf3
  v3 := Tryz.zeroValue3
  t4 := Tryz.underlying4
  a4 := Tryz.isAgg4
  z4 := Tryz.sizeOf4
  v4 := Tryz.zeroValue4
  t5 := Tryz.underlying5
  a5 := Tryz.isAgg5
  z5 := Tryz.sizeOf5
  v5 := Tryz.zeroValue5
  t9 := Tryz.underlying9
  a9 := Tryz.isAgg9
  z9 := Tryz.sizeOf9
  v9 := Tryz.zeroValue9
  t20 := Tryz.underlying20
  a20 := Tryz.isAgg20
  z20 := Tryz.sizeOf20
  v20 := Tryz.zeroValue20
  t37 := Tryz.underlying113
  a37 := Tryz.isAgg113
  z37 := Tryz.sizeOf113
  v37 := Tryz.zeroValue113
  t46 := Tryz.underlying275
  a46 := Tryz.isAgg275
  z46 := Tryz.sizeOf275
  v46 := Tryz.zeroValue275
  t51 := Tryz.underlying287
  a51 := Tryz.isAgg287
  z51 := Tryz.sizeOf287
  v51 := Tryz.zeroValue287
  t53 := Tryz.underlying255
  a53 := Tryz.isAgg255
  z53 := Tryz.sizeOf255
  v53 := Tryz.zeroValue255
  t171 := Tryz.underlying254
  a171 := Tryz.isAgg254
  z171 := Tryz.sizeOf254
  v171 := Tryz.zeroValue254
  t173 := Tryz.underlying258
  a173 := Tryz.isAgg258
  z173 := Tryz.sizeOf258
  v173 := Tryz.zeroValue258
  t212 := Tryz.underlying286
  a212 := Tryz.isAgg286
  z212 := Tryz.sizeOf286
  v212 := Tryz.zeroValue286
  t213 := Tryz.underlying288
  a213 := Tryz.isAgg288
  z213 := Tryz.sizeOf288
  t232 := Tryz.underlying351
  a232 := Tryz.isAgg351
  z232 := Tryz.sizeOf351
  v232 := Tryz.zeroValue351
  t233 := Tryz.underlying352
  a233 := Tryz.isAgg352
  z233 := Tryz.sizeOf352
  v233 := Tryz.zeroValue352
  g17 := by kernel_rfl
  g18 := by kernel_rfl
  g19 := by kernel_rfl
  i0 := by kernel_rfl
  i2 := by kernel_rfl
  i3 := by kernel_rfl
  i4 := by kernel_rfl
  i5 := by kernel_rfl
  i9 := by kernel_rfl
  i20 := by kernel_rfl
  i37 := by kernel_rfl
  i46 := by kernel_rfl
  i51 := by kernel_rfl
  i53 := by kernel_rfl
  i171 := by kernel_rfl
  i173 := by kernel_rfl
  i212 := by kernel_rfl
  i232 := by kernel_rfl
  i233 := by kernel_rfl
  m17 := by kernel_rfl
  m18 := by kernel_rfl
  m19 := by kernel_rfl }
open Go.RowKit Go.Sort Go.Lib in
/-- strconv.Itoa: "Itoa is equivalent to FormatInt(int64(i), 10).": i's DECIMAL NUMERAL ('Lib.itoa': a '-' where i is negative, then the digits), FOR EVERY int. The world behind the call: the world before it, new blocks behind the heap (the library's 'var a [24]byte'), draws. (LAID: no walk: one application.) -/
theorem Tryz.strconv_Itoa (n : Int) (h0 : -9223372036854775808 ≤ n) (h1 : n ≤ 9223372036854775807) (w : World) (htab : Lib.TabIs Tryz.prog w "internal/strconv.uint64pow10" .u64 Lib.pow10Tab) :
    Calls Tryz.prog 61 #[.int .i64 n] w fun e w' => e = .returned (.string ⟨(Lib.itoa n).toArray⟩) ∧ ∃ k os, w' = grow (w.drewN k) os := Any.strconv_Itoa Tryz.laysM171 n h0 h1 w htab
def Tryz.laysM173_ren : Go.Shelf.Ren := ⟨fun | 173 => 62 | 246 => 111 | 283 => 157 | 284 => 158 | 285 => 159 | 286 => 160 | 129 => 186 | 317 => 185 | 318 => 187 | 319 => 188 | 320 => 189 | 337 => 223 | 338 => 224 | n => n, fun | 2 => 2 | 3 => 3 | 9 => 9 | 4 => 4 | 171 => 254 | 0 => 0 | 53 => 255 | 37 => 113 | 5 => 5 | 173 => 258 | 212 => 286 | 51 => 287 | 20 => 20 | 213 => 288 | 46 => 275 | 232 => 351 | 233 => 352 | n => n, fun | 17 => 0 | 18 => 3 | 19 => 4 | n => n⟩
theorem Tryz.laysM173 : Go.Proofs.LaysM.n173 Tryz.prog Tryz.laysM173_ren := {
  mixed := by kernel_rfl
  f129 := Tryz.func186.trans (congrArg some (by kernel_rfl))
  f173 := Tryz.func62.trans (congrArg some (by kernel_rfl))
  f246 := Tryz.func111.trans (congrArg some (by kernel_rfl))
  f283 := Tryz.func157.trans (congrArg some (by kernel_rfl))
  f284 := Tryz.func158.trans (congrArg some (by kernel_rfl))
  f285 := Tryz.func159.trans (congrArg some (by kernel_rfl))
  f286 := Tryz.func160.trans (congrArg some (by kernel_rfl))
  f317 := Tryz.func185.trans (congrArg some (by kernel_rfl))
  f318 := Tryz.func187.trans (congrArg some (by kernel_rfl))
  f319 := Tryz.func188.trans (congrArg some (by kernel_rfl))
  f320 := Tryz.func189.trans (congrArg some (by kernel_rfl))
  f337 := Tryz.func223.trans (congrArg some (by kernel_rfl))
  f338 := Tryz.func224.trans (congrArg some (by kernel_rfl))
  t0 := Tryz.underlying0
  a0 := Tryz.isAgg0
  z0 := Tryz.sizeOf0
  v0 := Tryz.zeroValue0
  t2 := Tryz.underlying2
  a2 := Tryz.isAgg2
  z2 := Tryz.sizeOf2
  v2 := Tryz.zeroValue2
  t3 := Tryz.underlying3
  a3 := Tryz.isAgg3
  z3 := Tryz.sizeOf3
  v3 := Tryz.zeroValue3
  t4 := Tryz.underlying4
  a4 := Tryz.isAgg4
  z4 := Tryz.sizeOf4
  v4 := Tryz.zeroValue4
  t5 := Tryz.underlying5
  a5 := Tryz.isAgg5
  z5 := Tryz.sizeOf5
  v5 := Tryz.zeroValue5
  t9 := Tryz.underlying9
  a9 := Tryz.isAgg9
  z9 := Tryz.sizeOf9
  v9 := Tryz.zeroValue9
  t20 := Tryz.underlying20
  a20 := Tryz.isAgg20
  z20 := Tryz.sizeOf20
  v20 := Tryz.zeroValue20
  t37 := Tryz.underlying113
  a37 := Tryz.isAgg113
  z37 := Tryz.sizeOf113
  v37 := Tryz.zeroValue113
  t46 := Tryz.underlying275
  a46 := Tryz.isAgg275
  z46 := Tryz.sizeOf275
  v46 := Tryz.zeroValue275
  t51 := Tryz.underlying287
  a51 := Tryz.isAgg287
  z51 := Tryz.sizeOf287
  v51 := Tryz.zeroValue287
  t53 := Tryz.underlying255
  a53 := Tryz.isAgg255
  z53 := Tryz.sizeOf255
  v53 := Tryz.zeroValue255
  t171 := Tryz.underlying254
  a171 := Tryz.isAgg254
  z171 := Tryz.sizeOf254
  v171 := Tryz.zeroValue254
  t173 := Tryz.underlying258
  a173 := Tryz.isAgg258
  z173 := Tryz.sizeOf258
  v173 := Tryz.zeroValue258
  t212 := Tryz.underlying286
  a212 := Tryz.isAgg286
  z212 := Tryz.sizeOf286
  v212 := Tryz.zeroValue286
  t213 := Tryz.underlying288
  a213 := Tryz.isAgg288
  z213 := Tryz.sizeOf288
  t232 := Tryz.underlying351
  a232 := Tryz.isAgg351
  z232 := Tryz.sizeOf351
  v232 := Tryz.zeroValue351
  t233 := Tryz.underlying352
  a233 := Tryz.isAgg352
  z233 := Tryz.sizeOf352
  v233 := Tryz.zeroValue352
  g17 := by kernel_rfl
  g18 := by kernel_rfl
  g19 := by kernel_rfl
  i0 := by kernel_rfl
  i2 := by kernel_rfl
  i3 := by kernel_rfl
  i4 := by kernel_rfl
  i5 := by kernel_rfl
  i9 := by kernel_rfl
  i20 := by kernel_rfl
  i37 := by kernel_rfl
  i46 := by kernel_rfl
  i51 := by kernel_rfl
  i53 := by kernel_rfl
  i171 := by kernel_rfl
  i173 := by kernel_rfl
  i212 := by kernel_rfl
  i232 := by kernel_rfl
  i233 := by kernel_rfl
  m17 := by kernel_rfl
  m18 := by kernel_rfl
  m19 := by kernel_rfl }
open Go.RowKit Go.Sort Go.Lib in
/-- strconv.FormatInt: "FormatInt returns the string representation of i in the given base": AT BASE 10: i's decimal numeral, for every int64. (LAID: no walk: one application.) -/
theorem Tryz.strconv_FormatInt_10 (n : Int) (h0 : -9223372036854775808 ≤ n) (h1 : n ≤ 9223372036854775807) (w : World) (htab : Lib.TabIs Tryz.prog w "internal/strconv.uint64pow10" .u64 Lib.pow10Tab) :
    Calls Tryz.prog 62 #[.int .i64 n, .int .i64 10] w fun e w' => e = .returned (.string ⟨(Lib.itoa n).toArray⟩) ∧ ∃ k os, w' = grow (w.drewN k) os := Any.strconv_FormatInt_10 Tryz.laysM173 n h0 h1 w htab
def Tryz.laysC174_ren : Go.Shelf.Ren := ⟨fun | 174 => 255 | 247 => 284 | 245 => 285 | 287 => 295 | 279 => 296 | 280 => 297 | 281 => 298 | 282 => 299 | 321 => 303 | 322 => 304 | 316 => 305 | 171 => 61 | 205 => 306 | 243 => 110 | 246 => 111 | 283 => 157 | 284 => 158 | 285 => 159 | 286 => 160 | 129 => 186 | 317 => 185 | 318 => 187 | 319 => 188 | 320 => 189 | 337 => 223 | 338 => 224 | n => n, fun | 9 => 9 | 3 => 3 | 2 => 2 | 75 => 146 | 85 => 354 | 4 => 4 | 167 => 381 | 5 => 5 | 53 => 255 | 175 => 382 | 46 => 275 | 168 => 384 | 37 => 113 | 0 => 0 | 210 => 393 | 21 => 21 | 127 => 220 | 145 => 397 | 143 => 395 | 171 => 254 | 173 => 258 | 212 => 286 | 51 => 287 | 20 => 20 | 213 => 288 | 232 => 351 | 233 => 352 | 80 => 151 | n => n, fun | 15 => 6 | 16 => 7 | 17 => 0 | 18 => 3 | 19 => 4 | n => n⟩
theorem Tryz.laysC174 : Go.Proofs.LaysC.n174 Tryz.prog Tryz.laysC174_ren := {
  mixed := by kernel_rfl
  f129 := Tryz.func186.trans (congrArg some (by kernel_rfl))
  f171 := Tryz.func61.trans (congrArg some (by kernel_rfl))
  f174 := Tryz.func255.trans (congrArg some (by kernel_rfl))
  f205 := Tryz.func306.trans (congrArg some (by kernel_rfl))
  f243 := Tryz.func110.trans (congrArg some (by kernel_rfl))
  f245 := Tryz.func285.trans (congrArg some (by kernel_rfl))
  f246 := Tryz.func111.trans (congrArg some (by kernel_rfl))
  f247 := Tryz.func284.trans (congrArg some (by kernel_rfl))
  f279 := Tryz.func296.trans (congrArg some (by kernel_rfl))
  f280 := Tryz.func297.trans (congrArg some (by kernel_rfl))
  f281 := Tryz.func298.trans (congrArg some (by kernel_rfl))
  f282 := Tryz.func299.trans (congrArg some (by kernel_rfl))
  f283 := Tryz.func157.trans (congrArg some (by kernel_rfl))
  f284 := Tryz.func158.trans (congrArg some (by kernel_rfl))
  f285 := Tryz.func159.trans (congrArg some (by kernel_rfl))
  f286 := Tryz.func160.trans (congrArg some (by kernel_rfl))
  f287 := Tryz.func295.trans (congrArg some (by kernel_rfl))
  f316 := Tryz.func305.trans (congrArg some (by kernel_rfl))
  f317 := Tryz.func185.trans (congrArg some (by kernel_rfl))
  f318 := Tryz.func187.trans (congrArg some (by kernel_rfl))
  f319 := Tryz.func188.trans (congrArg some (by kernel_rfl))
  f320 := Tryz.func189.trans (congrArg some (by kernel_rfl))
  f321 := Tryz.func303.trans (congrArg some (by kernel_rfl))
  f322 := Tryz.func304.trans (congrArg some (by kernel_rfl))
  f337 := Tryz.func223.trans (congrArg some (by kernel_rfl))
  f338 := Tryz.func224.trans (congrArg some (by kernel_rfl))
  t0 := Tryz.underlying0
  a0 := Tryz.isAgg0
  z0 := Tryz.sizeOf0
  v0 := Tryz.zeroValue0
  t2 := Tryz.underlying2
  a2 := Tryz.isAgg2
  z2 := Tryz.sizeOf2
  v2 := Tryz.zeroValue2
  t3 := Tryz.underlying3
  a3 := Tryz.isAgg3
  z3 := Tryz.sizeOf3
  v3 := Tryz.zeroValue3
  t4 := Tryz.underlying4
  a4 := Tryz.isAgg4
  z4 := Tryz.sizeOf4
  v4 := Tryz.zeroValue4
  t5 := Tryz.underlying5
  a5 := Tryz.isAgg5
  z5 := Tryz.sizeOf5
  v5 := Tryz.zeroValue5
  t9 := Tryz.underlying9
  a9 := Tryz.isAgg9
  z9 := Tryz.sizeOf9
  v9 := Tryz.zeroValue9
  t20 := Tryz.underlying20
  a20 := Tryz.isAgg20
  z20 := Tryz.sizeOf20
  v20 := Tryz.zeroValue20
  t21 := Tryz.underlying21
  a21 := Tryz.isAgg21
  z21 := Tryz.sizeOf21
  v21 := Tryz.zeroValue21
  t37 := Tryz.underlying113
  a37 := Tryz.isAgg113
  z37 := Tryz.sizeOf113
  v37 := Tryz.zeroValue113
  t46 := Tryz.underlying275
  a46 := Tryz.isAgg275
  z46 := Tryz.sizeOf275
  v46 := Tryz.zeroValue275
  t51 := Tryz.underlying287
  a51 := Tryz.isAgg287
  z51 := Tryz.sizeOf287
  v51 := Tryz.zeroValue287
  t53 := Tryz.underlying255
  a53 := Tryz.isAgg255
  z53 := Tryz.sizeOf255
  v53 := Tryz.zeroValue255
  t75 := Tryz.underlying146
  a75 := Tryz.isAgg146
  z75 := Tryz.sizeOf146
  v75 := Tryz.zeroValue146
  t85 := Tryz.underlying354
  a85 := Tryz.isAgg354
  z85 := Tryz.sizeOf354
  v85 := Tryz.zeroValue354
  t127 := Tryz.underlying220
  a127 := Tryz.isAgg220
  z127 := Tryz.sizeOf220
  v127 := Tryz.zeroValue220
  t143 := Tryz.underlying395
  a143 := Tryz.isAgg395
  z143 := Tryz.sizeOf395
  v143 := Tryz.zeroValue395
  t145 := Tryz.underlying397
  a145 := Tryz.isAgg397
  z145 := Tryz.sizeOf397
  v145 := Tryz.zeroValue397
  t167 := Tryz.underlying381
  a167 := Tryz.isAgg381
  z167 := Tryz.sizeOf381
  v167 := Tryz.zeroValue381
  t168 := Tryz.underlying384
  a168 := Tryz.isAgg384
  z168 := Tryz.sizeOf384
  v168 := Tryz.zeroValue384
  t171 := Tryz.underlying254
  a171 := Tryz.isAgg254
  z171 := Tryz.sizeOf254
  v171 := Tryz.zeroValue254
  t173 := Tryz.underlying258
  a173 := Tryz.isAgg258
  z173 := Tryz.sizeOf258
  v173 := Tryz.zeroValue258
  t175 := Tryz.underlying382
  a175 := Tryz.isAgg382
  z175 := Tryz.sizeOf382
  v175 := Tryz.zeroValue382
  t210 := Tryz.underlying393
  a210 := Tryz.isAgg393
  z210 := Tryz.sizeOf393
  v210 := Tryz.zeroValue393
  t212 := Tryz.underlying286
  a212 := Tryz.isAgg286
  z212 := Tryz.sizeOf286
  v212 := Tryz.zeroValue286
  t213 := Tryz.underlying288
  a213 := Tryz.isAgg288
  z213 := Tryz.sizeOf288
  t232 := Tryz.underlying351
  a232 := Tryz.isAgg351
  z232 := Tryz.sizeOf351
  v232 := Tryz.zeroValue351
  t233 := Tryz.underlying352
  a233 := Tryz.isAgg352
  z233 := Tryz.sizeOf352
  v233 := Tryz.zeroValue352
  g15 := by kernel_rfl
  g16 := by kernel_rfl
  g17 := by kernel_rfl
  g18 := by kernel_rfl
  g19 := by kernel_rfl
  t80 := Tryz.underlying151
  a80 := Tryz.isAgg151
  z80 := Tryz.sizeOf151
  v80 := Tryz.zeroValue151
  i0 := by kernel_rfl
  i2 := by kernel_rfl
  i3 := by kernel_rfl
  i4 := by kernel_rfl
  i5 := by kernel_rfl
  i9 := by kernel_rfl
  i20 := by kernel_rfl
  i21 := by kernel_rfl
  i37 := by kernel_rfl
  i46 := by kernel_rfl
  i51 := by kernel_rfl
  i53 := by kernel_rfl
  i75 := by kernel_rfl
  i80 := by kernel_rfl
  i85 := by kernel_rfl
  i127 := by kernel_rfl
  i143 := by kernel_rfl
  i145 := by kernel_rfl
  i167 := by kernel_rfl
  i168 := by kernel_rfl
  i171 := by kernel_rfl
  i173 := by kernel_rfl
  i175 := by kernel_rfl
  i210 := by kernel_rfl
  i212 := by kernel_rfl
  i232 := by kernel_rfl
  i233 := by kernel_rfl
  m15 := by kernel_rfl
  m16 := by kernel_rfl
  m17 := by kernel_rfl
  m18 := by kernel_rfl
  m19 := by kernel_rfl
  c0 := by kernel_rfl
  c2 := by kernel_rfl
  c3 := by kernel_rfl
  c4 := by kernel_rfl
  c5 := by kernel_rfl
  c9 := by kernel_rfl
  c20 := by kernel_rfl
  c21 := by kernel_rfl
  c37 := by kernel_rfl
  c46 := by kernel_rfl
  c51 := by kernel_rfl
  c53 := by kernel_rfl
  c75 := by kernel_rfl
  c80 := by kernel_rfl
  c85 := by kernel_rfl
  c127 := by kernel_rfl
  c143 := by kernel_rfl
  c145 := by kernel_rfl
  c167 := by kernel_rfl
  c168 := by kernel_rfl
  c171 := by kernel_rfl
  c173 := by kernel_rfl
  c175 := by kernel_rfl
  c210 := by kernel_rfl
  c212 := by kernel_rfl
  c213 := by kernel_rfl
  c232 := by kernel_rfl
  c233 := by kernel_rfl }
open Go.RowKit in
/-- strconv.ParseInt(s, 10, 64), AT EVERY STRING THAT SPELLS AN int64 ('Lib.parseIntB 64 s.data.toList = .ok v'): v, AND NO ERROR. (LAID: no walk: one application.) -/
theorem Tryz.strconv_ParseInt_10_at64_ok (s : ByteArray) (hmax : s.size ≤ 9223372036854775806) (v : Int) (h : Lib.parseIntB 64 s.data.toList = .ok v) (w : World) :
    Calls Tryz.prog 255 #[.string s, .int .i64 10, .int .i64 64] w fun e w' => e = .returned (.tuple #[.int .i64 v, .nilIface]) ∧ (w' = w ∨ ∃ t, w' = Lib.bytesWorld w 5 t) := Any.strconv_ParseInt_10_at64_ok Tryz.laysC174 s hmax v h w
open Go.RowKit in
def Tryz.lays143_ren : Go.Shelf.Ren := ⟨fun | 143 => 251 | 219 => 280 | 217 => 254 | 225 => 249 | 224 => 248 | 267 => 292 | 266 => 283 | 314 => 302 | n => n, fun | 9 => 9 | 3 => 3 | 4 => 4 | 5 => 5 | 46 => 275 | 146 => 388 | 51 => 287 | n => n, fun | 1 => 5 | n => n⟩
theorem Tryz.lays143 : Go.Proofs.Lays.n143 Tryz.prog Tryz.lays143_ren := {
  mixed := by kernel_rfl
  f143 := Tryz.func251.trans (congrArg some (by kernel_rfl))
  f217 := Tryz.func254.trans (congrArg some (by kernel_rfl))
  f219 := Tryz.func280.trans (congrArg some (by kernel_rfl))
  f224 := Tryz.func248.trans (congrArg some (by kernel_rfl))
  f225 := Tryz.func249.trans (congrArg some (by kernel_rfl))
  f266 := Tryz.func283.trans (congrArg some (by kernel_rfl))
  f267 := Tryz.func292.trans (congrArg some (by kernel_rfl))
  f314 := Tryz.func302.trans (congrArg some (by kernel_rfl))
  t3 := Tryz.underlying3
  a3 := Tryz.isAgg3
  z3 := Tryz.sizeOf3
  v3 := Tryz.zeroValue3
  t4 := Tryz.underlying4
  a4 := Tryz.isAgg4
  z4 := Tryz.sizeOf4
  v4 := Tryz.zeroValue4
  t5 := Tryz.underlying5
  a5 := Tryz.isAgg5
  z5 := Tryz.sizeOf5
  v5 := Tryz.zeroValue5
  t9 := Tryz.underlying9
  a9 := Tryz.isAgg9
  z9 := Tryz.sizeOf9
  v9 := Tryz.zeroValue9
  t46 := Tryz.underlying275
  a46 := Tryz.isAgg275
  z46 := Tryz.sizeOf275
  v46 := Tryz.zeroValue275
  t51 := Tryz.underlying287
  a51 := Tryz.isAgg287
  z51 := Tryz.sizeOf287
  v51 := Tryz.zeroValue287
  t146 := Tryz.underlying388
  a146 := Tryz.isAgg388
  z146 := Tryz.sizeOf388
  v146 := Tryz.zeroValue388
  g1 := by kernel_rfl }
open Go.RowKit Go.Lib in
/-- strings.Index: "Index returns the index of the first instance of substr in s, or -1 if substr is not present in s.": AT A substr OF ONE BYTE c: IT RETURNS 'Lib.indexByte s c'; the world is as it was. (LAID: no walk: one application.) -/
theorem Tryz.strings_Index_one (s : ByteArray) (c : UInt8) (w : World) :
    Calls Tryz.prog 251 #[.string s, .string ⟨#[c]⟩] w fun e w' => e = .returned (.int .i64 (Lib.indexByte s.data.toList c)) ∧ w' = w := Any.strings_Index_one Tryz.lays143 s c w
def Tryz.lays101_ren : Go.Shelf.Ren := ⟨fun | 101 => 256 | 208 => 286 | 206 => 300 | n => n, fun | 9 => 9 | 4 => 4 | 3 => 3 | n => n, fun | n => n⟩
theorem Tryz.lays101 : Go.Proofs.Lays.n101 Tryz.prog Tryz.lays101_ren := {
  mixed := by kernel_rfl
  f101 := Tryz.func256.trans (congrArg some (by kernel_rfl))
  f206 := Tryz.func300.trans (congrArg some (by kernel_rfl))
  f208 := Tryz.func286.trans (congrArg some (by kernel_rfl))
  t3 := Tryz.underlying3
  a3 := Tryz.isAgg3
  z3 := Tryz.sizeOf3
  v3 := Tryz.zeroValue3
  t4 := Tryz.underlying4
  a4 := Tryz.isAgg4
  z4 := Tryz.sizeOf4
  v4 := Tryz.zeroValue4
  t9 := Tryz.underlying9
  a9 := Tryz.isAgg9
  z9 := Tryz.sizeOf9
  v9 := Tryz.zeroValue9 }
open Go.RowKit Go.Lib in
/-- strings.TrimPrefix: "TrimPrefix returns s without the provided leading prefix string. If s doesn't start with prefix, s is returned unchanged.": IT RETURNS 'Lib.trimPrefix s prefix'; the world is as it was. (LAID: no walk: one application.) -/
theorem Tryz.strings_TrimPrefix (s p : ByteArray) (w : World) :
    Calls Tryz.prog 256 #[.string s, .string p] w fun e w' => e = .returned (.string ⟨(Lib.trimPrefix s.data.toList p.data.toList).toArray⟩) ∧ w' = w := Any.strings_TrimPrefix Tryz.lays101 s p w
def Tryz.lays146_ren : Go.Shelf.Ren := ⟨fun | 146 => 227 | 221 => 253 | 268 => 281 | 138 => 282 | 143 => 251 | 195 => 293 | 197 => 182 | 218 => 294 | 219 => 280 | 260 => 220 | 217 => 254 | 225 => 249 | 224 => 248 | 267 => 292 | 266 => 283 | 314 => 302 | n => n, fun | 9 => 9 | 31 => 47 | 3 => 3 | 4 => 4 | 0 => 0 | 105 => 281 | 21 => 21 | 5 => 5 | 46 => 275 | 119 => 345 | 139 => 348 | 138 => 347 | 146 => 388 | 51 => 287 | n => n, fun | 1 => 5 | 3 => 1 | 4 => 2 | n => n⟩
theorem Tryz.lays146 : Go.Proofs.Lays.n146 Tryz.prog Tryz.lays146_ren := {
  mixed := by kernel_rfl
  f138 := Tryz.func282.trans (congrArg some (by kernel_rfl))
  f143 := Tryz.func251.trans (congrArg some (by kernel_rfl))
  f146 := Tryz.func227.trans (congrArg some (by kernel_rfl))
  f195 := Tryz.func293.trans (congrArg some (by kernel_rfl))
  f197 := Tryz.func182.trans (congrArg some (by kernel_rfl))
  f217 := Tryz.func254.trans (congrArg some (by kernel_rfl))
  f218 := Tryz.func294.trans (congrArg some (by kernel_rfl))
  f219 := Tryz.func280.trans (congrArg some (by kernel_rfl))
  f221 := Tryz.func253.trans (congrArg some (by kernel_rfl))
  f224 := Tryz.func248.trans (congrArg some (by kernel_rfl))
  f225 := Tryz.func249.trans (congrArg some (by kernel_rfl))
  f260 := Tryz.func220.trans (congrArg some (by kernel_rfl))
  f266 := Tryz.func283.trans (congrArg some (by kernel_rfl))
  f267 := Tryz.func292.trans (congrArg some (by kernel_rfl))
  f268 := Tryz.func281.trans (congrArg some (by kernel_rfl))
  f314 := Tryz.func302.trans (congrArg some (by kernel_rfl))
  t0 := Tryz.underlying0
  a0 := Tryz.isAgg0
  z0 := Tryz.sizeOf0
  v0 := Tryz.zeroValue0
  t3 := Tryz.underlying3
  a3 := Tryz.isAgg3
  z3 := Tryz.sizeOf3
  v3 := Tryz.zeroValue3
  t4 := Tryz.underlying4
  a4 := Tryz.isAgg4
  z4 := Tryz.sizeOf4
  v4 := Tryz.zeroValue4
  t5 := Tryz.underlying5
  a5 := Tryz.isAgg5
  z5 := Tryz.sizeOf5
  v5 := Tryz.zeroValue5
  t9 := Tryz.underlying9
  a9 := Tryz.isAgg9
  z9 := Tryz.sizeOf9
  v9 := Tryz.zeroValue9
  t21 := Tryz.underlying21
  a21 := Tryz.isAgg21
  z21 := Tryz.sizeOf21
  v21 := Tryz.zeroValue21
  t31 := Tryz.underlying47
  a31 := Tryz.isAgg47
  z31 := Tryz.sizeOf47
  v31 := Tryz.zeroValue47
  t46 := Tryz.underlying275
  a46 := Tryz.isAgg275
  z46 := Tryz.sizeOf275
  v46 := Tryz.zeroValue275
  t51 := Tryz.underlying287
  a51 := Tryz.isAgg287
  z51 := Tryz.sizeOf287
  v51 := Tryz.zeroValue287
  t105 := Tryz.underlying281
  a105 := Tryz.isAgg281
  z105 := Tryz.sizeOf281
  v105 := Tryz.zeroValue281
  t119 := Tryz.underlying345
  a119 := Tryz.isAgg345
  z119 := Tryz.sizeOf345
  t138 := Tryz.underlying347
  a138 := Tryz.isAgg347
  z138 := Tryz.sizeOf347
  v138 := Tryz.zeroValue347
  t139 := Tryz.underlying348
  a139 := Tryz.isAgg348
  z139 := Tryz.sizeOf348
  v139 := Tryz.zeroValue348
  t146 := Tryz.underlying388
  a146 := Tryz.isAgg388
  z146 := Tryz.sizeOf388
  v146 := Tryz.zeroValue388
  g1 := by kernel_rfl
  g3 := by kernel_rfl
  g4 := by kernel_rfl }
open Go.RowKit Go.Lib in
/-- strings.Split. (LAID: no walk: one application.) -/
theorem Tryz.strings_Split (s sep : ByteArray) (m : Int) (w : World) (hs : s.size < 4294967281) (hm : w.cell? ⟨5, 0, none⟩ = some (.int .i64 m)) (h1 : 1 ≤ sep.size) :
    Calls Tryz.prog 227 #[.string s, .string sep] w fun e w' =>
      e = .returned (.slice (some ⟨w.heap.size, 0, none⟩) (Lib.countB s sep + 1) (Lib.countB s sep + 1)) ∧ w' = w.alloc (.cells ((Lib.splitB sep 0 (Lib.countB s sep) s).map Value.string).toArray 9) := Any.strings_Split Tryz.lays146 (by kernel_rfl) s sep m w hs hm h1
end Go.Proofs
/- Layer 2: Print. -/
namespace Go.Proofs.YtmcpnoailbmkkaaGreatDoor
open Go Go.RowKit Go.Proofs
attribute [local irreducible] J JQ JL JA JD

open Go.Shelf
/-- The text of a stone, and of a position. -/
def restL (s : St) : List UInt8 := (((Lib.itoa (s.n + 1) ++ [32]) ++ Lib.itoa s.x) ++ [32]) ++ Lib.itoa s.y ++ [10]
def lineL (s : St) : List UInt8 := (if s.t = 1 then 121 else 114) :: restL s
def printL (l : List St) : List UInt8 := l.flatMap lineL
theorem rest_len {s : St} (h : okSt s) : (restL s).length ≤ 66 := by
  obtain ⟨⟨-, h1, h2⟩, ⟨⟨h3, h4⟩, h5, h6⟩, -⟩ := h
  have a := Lib.itoa_length_le (s.n + 1) (by omega) (by omega)
  have b := Lib.itoa_length_le s.x (by omega) (by omega)
  have c := Lib.itoa_length_le s.y (by omega) (by omega)
  unfold restL; simp only [List.length_append, List.length_cons, List.length_nil]; omega
theorem print_snoc {l : List St} {k : Nat} (h : k < l.length) : printL (l.take (k + 1)) = printL (l.take k) ++ lineL (l[k]'h) := by
  unfold printL; rw [List.take_succ_eq_append_getElem h, List.flatMap_append]; simp
theorem print_len {l : List St} (h : ∀ j (h : j < l.length), okSt (l[j]'h)) : ∀ k, k ≤ l.length → (printL (l.take k)).length ≤ 67 * k
  | 0, _ => by simp [printL]
  | k + 1, hk => by
    have ih := print_len h k (by omega)
    rw [print_snoc (by omega), List.length_append]
    have := rest_len (h k (by omega))
    unfold lineL; simp only [List.length_cons]; omega

abbrev Tab (w : World) : Prop := Lib.TabIs Tryz.prog w "internal/strconv.uint64pow10" .u64 Lib.pow10Tab
theorem itoa_back (n : Int) (h0 : -9223372036854775808 ≤ n) (h1 : n ≤ 9223372036854775807) (w : World) (ht : Tab w) : Calls Tryz.prog 61 #[.int .i64 n] w (Back (.string ⟨(Lib.itoa n).toArray⟩) w) :=
  (Tryz.strconv_Itoa n h0 h1 w ht).mono fun e w' ⟨he, k, os, hw⟩ => ⟨he, by rw [hw]; exact Lib.below_grow _ _ (Nat.le_refl _) _ _⟩
theorem fmt_back (n : Int) (h0 : -9223372036854775808 ≤ n) (h1 : n ≤ 9223372036854775807) (w : World) (ht : Tab w) : Calls Tryz.prog 62 #[.int .i64 n, .int .i64 10] w (Back (.string ⟨(Lib.itoa n).toArray⟩) w) :=
  (Tryz.strconv_FormatInt_10 n h0 h1 w ht).mono fun e w' ⟨he, k, os, hw⟩ => ⟨he, by rw [hw]; exact Lib.below_grow _ _ (Nat.le_refl _) _ _⟩
theorem Tab.up {w w' : World} (h : Tab w) (hb : Below w.heap.size w w') : Tab w' := Lib.tabBelow_of_tabIs h w' hb
/-- A decimal text; the text of the first k stones. -/
abbrev itB (n : Int) : ByteArray := ⟨(Lib.itoa n).toArray⟩
def prS (l : List St) (k : Nat) : ByteArray := ⟨(printL (l.take k)).toArray⟩
def lnU (s : St) : ByteArray := ((((itB (s.n + 1) ++ ⟨#[32]⟩) ++ itB s.x) ++ ⟨#[32]⟩) ++ itB s.y) ++ ⟨#[10]⟩
theorem ba_ext {a b : ByteArray} (h : a.data.toList = b.data.toList) : a = b := by
 cases a with | mk a => cases b with | mk b => cases a with | mk a => cases b with | mk b => simp at h; rw [h]
theorem prS_s {l : List St} {k : Nat} {s : St} (h : k < l.length) (hs : l[k]'h = s) : (prS l k ++ ⟨#[if s.t = 1 then 121 else 114]⟩) ++ lnU s = prS l (k + 1) := by
 refine ba_ext ?_
 unfold prS lnU
 rw [print_snoc h, hs]
 simp [lineL, restL, itB, ByteArray.data_append]
theorem it_size {n : Int} (h0 : -9223372036854775808 ≤ n) (h1 : n ≤ 9223372036854775807) : (itB n).size ≤ 21 := Lib.itoa_length_le n h0 h1
theorem pr_size {l : List St} (h : ∀ j (h : j < l.length), okSt (l[j]'h)) {k : Nat} (hk : k ≤ l.length) : (prS l k).size ≤ 67 * k := print_len h k hk
theorem pr_ge {l : List St} : ∀ {k : Nat}, k ≤ l.length → k ≤ (prS l k).size := by
 intro k
 induction k with
 | zero => intro _; exact Nat.zero_le _
 | succ k ih =>
  intro hk
  rw [← prS_s (show k < l.length by omega) rfl, ByteArray.size_append, ByteArray.size_append]
  have := ih (by omega)
  have e : (⟨#[if (l[k]'(by omega)).t = 1 then (121 : UInt8) else 114]⟩ : ByteArray).size = 1 := rfl
  omega
set_option maxRecDepth 100000 in
set_option maxHeartbeats 4000000 in
theorem Print_any (l : List St) (v : Value) (w : World) (hrow : Arr 4 eT w v l) (hchk : chkB l = true) (hT : Tab w) : Calls Tryz.prog 20 #[v] w (Back (.tuple #[.string ⟨(printL l).toArray⟩, .int .i64 0]) w) := by
 have hrow0 := hrow
 obtain ⟨hl16, hall⟩ := chk_facts hchk
 obtain ⟨A, cap, rfl, -, ⟨hl, -⟩, hA⟩ := hrow
 refine J_enter (fun _ => False) (vs := [.slice A l.length cap]) (k := 39) (l := [(0, .slice A l.length cap)]) Tryz.func20 rfl rfl Tryz.ntmps20 rfl rfl (Wd.start _) ?_
 refine s10 ?_
 refine aCB (fun w hw => (Check_any l _ w (hrow0.up ET hw.bel)).mono (fun _ _ h => by rw [hchk] at h; exact h)) ?_
 refine s7 ?_
 refine kJ [(0, _)] ?_
 refine s1 ?_
 refine aW oA (fun b4 hb4 => ?_)
 refine s4 ?_
 refine J_own0 5 1 ?_
 refine s7 ?_
 refine xL (T := Nat × Value × Option Addr × Nat) (fun q => q.1 ≤ l.length ∧ (q.2.1 = .pointer none ∨ q.2.1 = .pointer (some ⟨b4, 0, none⟩)) ∧ (q.1 = 0 → q.2.2.1 = none)) (fun q => [(4, .pointer (some ⟨b4, 0, none⟩)), (10, .slice A l.length cap), (11, .int .i64 (l.length : Nat)), (12, .int .i64 (q.1 : Nat))]) (fun q => [cellB b4 [q.2.1, .slice q.2.2.1 (prS l q.1).size q.2.2.2] 144, bytB 5 q.2.2.1 q.2.2.2 (prS l q.1)]) (fun q => l.length - q.1) (0, .pointer none, none, 0) ⟨Nat.zero_le _, .inl rfl, fun _ => rfl⟩ ?_ (hH := by (try dsimp only); rw [show prS l 0 = ⟨#[]⟩ from rfl]; repeat constructor)
 rintro ⟨k, p, gA, gc⟩ ⟨hk, hp, hk0⟩
 dsimp only at hk hp hk0 ⊢
 have hps := pr_size hall hk
 refine s3 ?_
 refine JL_dec (fun h13 => ?_) (fun h13 => ?_)
 ·refine s9 ?_
  have hltx : k < l.length := by omega
  obtain ⟨bx, qx, rfl, hh⟩ := hA (by intro e; subst e; simp at hltx)
  obtain ⟨⟨xt, xn, xx, xy⟩, hx⟩ : ∃ y, l[k]'hltx = y := ⟨_, rfl⟩
  have hmx : (⟨xt, xn, xx, xy⟩ : St) ∈ l := by rw [← hx]; exact List.getElem_mem _
  have hox := hall k hltx
  rw [hx] at hox
  obtain ⟨⟨⟨ht0, ht1⟩, hn0, hn1⟩, ⟨⟨hx0, hx1⟩, hy0, hy1⟩, -⟩ := hox
  dsimp only at ht0 ht1 hn0 hn1 hx0 hx1 hy0 hy1
  refine s2 ?_
  refine aV (vHoldA (cs := [.int .i64 xt, .int .i64 xn, .int .i64 xx, .int .i64 xy]) ET rfl rfl (fun h => h) hh hltx (by rw [hx]; rfl)) ?_
  refine aW oA (fun b6 hb6 => ?_)
  refine s4 ?_
  obtain rfl | rfl : xt = 0 ∨ xt = 1 := by omega
  ·refine s3 ?_
   refine aP (pByte (i := 0) (b := 114) rfl rfl rfl rfl) ?_
   refine aW (oL [cellB b4 [p, .slice gA (prS l k).size gc] 144, bytB 5 gA gc (prS l k)] [cellB b6 [.int .i64 0, .int .i64 xn, .int .i64 xx, .int .i64 xy] 43] (fun w hw h0 => WriteByte_any b4 p gA gc (prS l k) 114 _ w hp (by omega) h0)) (fun t19 _ => ?_)
   refine s2 ?_
   have i1 : (⟨(Lib.itoa (xn + 1)).toArray⟩ : ByteArray).size ≤ 21 := it_size (n := xn + 1) (by omega) (by omega)
   have i2 : (⟨(Lib.itoa xx).toArray⟩ : ByteArray).size ≤ 21 := it_size (n := xx) (by omega) (by omega)
   have i3 : (⟨(Lib.itoa xy).toArray⟩ : ByteArray).size ≤ 21 := it_size (n := xy) (by omega) (by omega)
   have z1 : (⟨#[32]⟩ : ByteArray).size = 1 := rfl
   have z2 : (⟨#[10]⟩ : ByteArray).size = 1 := rfl
   have y1 : ((⟨(Lib.itoa (xn + 1)).toArray⟩ : ByteArray) ++ ⟨#[32]⟩).size = (⟨(Lib.itoa (xn + 1)).toArray⟩ : ByteArray).size + (⟨#[32]⟩ : ByteArray).size := ByteArray.size_append
   have y2 : (((⟨(Lib.itoa (xn + 1)).toArray⟩ : ByteArray) ++ ⟨#[32]⟩) ++ (⟨(Lib.itoa xx).toArray⟩ : ByteArray)).size = ((⟨(Lib.itoa (xn + 1)).toArray⟩ : ByteArray) ++ ⟨#[32]⟩).size + (⟨(Lib.itoa xx).toArray⟩ : ByteArray).size := ByteArray.size_append
   have y3 : ((((⟨(Lib.itoa (xn + 1)).toArray⟩ : ByteArray) ++ ⟨#[32]⟩) ++ (⟨(Lib.itoa xx).toArray⟩ : ByteArray)) ++ ⟨#[32]⟩).size = (((⟨(Lib.itoa (xn + 1)).toArray⟩ : ByteArray) ++ ⟨#[32]⟩) ++ (⟨(Lib.itoa xx).toArray⟩ : ByteArray)).size + (⟨#[32]⟩ : ByteArray).size := ByteArray.size_append
   have y4 : (((((⟨(Lib.itoa (xn + 1)).toArray⟩ : ByteArray) ++ ⟨#[32]⟩) ++ (⟨(Lib.itoa xx).toArray⟩ : ByteArray)) ++ ⟨#[32]⟩) ++ (⟨(Lib.itoa xy).toArray⟩ : ByteArray)).size = ((((⟨(Lib.itoa (xn + 1)).toArray⟩ : ByteArray) ++ ⟨#[32]⟩) ++ (⟨(Lib.itoa xx).toArray⟩ : ByteArray)) ++ ⟨#[32]⟩).size + (⟨(Lib.itoa xy).toArray⟩ : ByteArray).size := ByteArray.size_append
   have y5 : (lnU (⟨0, xn, xx, xy⟩ : St)).size = (((((⟨(Lib.itoa (xn + 1)).toArray⟩ : ByteArray) ++ ⟨#[32]⟩) ++ (⟨(Lib.itoa xx).toArray⟩ : ByteArray)) ++ ⟨#[32]⟩) ++ (⟨(Lib.itoa xy).toArray⟩ : ByteArray)).size + (⟨#[10]⟩ : ByteArray).size := ByteArray.size_append
   refine J_close [cellB b4 [.pointer (some ⟨b4, 0, none⟩), .slice t19.1 (prS l k ++ (⟨#[114]⟩ : ByteArray)).size t19.2] 144, bytB 5 t19.1 t19.2 (prS l k ++ (⟨#[114]⟩ : ByteArray))] ?_ (hk := (by repeat (first | exact Pk.refl _ | (apply Pk.pick; (repeat (first | exact Rm.here _ | apply Rm.there))))))
   refine kJ [(4, _), (6, _), (10, _), (11, _), (12, _)] ?_
   refine xDx [0, 1, 2, 5, 6, 7, 11, 12, 13, 3, 4, 8, 9, 10, 14, 15, 16, 17] [] [1, 7, 13] [cellB b6 [.int .i64 0, .int .i64 xn, .int .i64 xx, .int .i64 xy] 43] ?_
   refine s9 ?_
   refine dCB rfl (fun w hw => (itoa_back (xn + 1) (by omega) (by omega) w (hT.up hw.bel))) ?_
   refine dP rfl (pCatS rfl rfl rfl (by omega)) ?_
   refine dCB rfl (fun w hw => (fmt_back xx (by omega) (by omega) w (hT.up hw.bel))) ?_
   refine dP rfl (pCatS rfl rfl rfl (by omega)) ?_
   refine dP rfl (pCatS rfl rfl rfl (by omega)) ?_
   refine dCB rfl (fun w hw => (fmt_back xy (by omega) (by omega) w (hT.up hw.bel))) ?_
   refine dP rfl (pCatS rfl rfl rfl (by omega)) ?_
   refine dP rfl (pCatS rfl rfl rfl (by omega)) ?_
   refine dW rfl (oM (fun w hw => ((WriteStr_any b4 _ t19.1 t19.2 (prS l k ++ (⟨#[114]⟩ : ByteArray)) (lnU (⟨0, xn, xx, xy⟩ : St)) _ w (.inr rfl) (by rw [ByteArray.size_append]; have : (⟨#[114]⟩ : ByteArray).size = 1 := rfl; omega) (hw.opn (HA := [cellB b4 [.pointer (some ⟨b4, 0, none⟩), .slice t19.1 (prS l k ++ (⟨#[114]⟩ : ByteArray)).size t19.2] 144, bytB 5 t19.1 t19.2 (prS l k ++ (⟨#[114]⟩ : ByteArray))]) (H1 := []) (by repeat constructor))).mono (fun _ _ h => (RetL.grp (HC := fun t : Option Addr × Nat => [cellB b4 [.pointer (some ⟨b4, 0, none⟩), .slice t.1 ((prS l k ++ (⟨#[114]⟩ : ByteArray)) ++ (lnU (⟨0, xn, xx, xy⟩ : St))).size t.2] 144, bytB 5 t.1 t.2 ((prS l k ++ (⟨#[114]⟩ : ByteArray)) ++ (lnU (⟨0, xn, xx, xy⟩ : St)))]) (HN := fun _ => []) h (fun _ => rfl)).toM)))) (fun t37 _ => ?_)
   refine s3 ?_
   refine J_opn [cellB b4 [.pointer (some ⟨b4, 0, none⟩), .slice t37.1 ((prS l k ++ (⟨#[114]⟩ : ByteArray)) ++ (lnU (⟨0, xn, xx, xy⟩ : St))).size t37.2] 144, bytB 5 t37.1 t37.2 ((prS l k ++ (⟨#[114]⟩ : ByteArray)) ++ (lnU (⟨0, xn, xx, xy⟩ : St)))] ?_ (hk := (by repeat (first | exact Pk.refl _ | (apply Pk.pick; (repeat (first | exact Rm.here _ | apply Rm.there))))))
   dsimp only [List.cons_append, List.nil_append]
   refine kJ [(4, _), (10, _), (11, _), (12, _)] ?_
   refine s4 ?_
   have hs := prS_s (show k < l.length by omega) hx
   exact xR (k + 1, .pointer (some ⟨b4, 0, none⟩), t37.1, t37.2) ⟨by dsimp only; omega, .inr rfl, fun h => absurd h (Nat.succ_ne_zero _)⟩ (by dsimp only; omega) (hl := ⟨rfl, rfl, rfl, (congrArg some (by go_num)), trivial⟩) (hH := by (try dsimp only); rw [← hs]; repeat constructor)
  ·refine s3 ?_
   refine aP (pByte (i := 1) (b := 121) rfl rfl rfl rfl) ?_
   refine aW (oL [cellB b4 [p, .slice gA (prS l k).size gc] 144, bytB 5 gA gc (prS l k)] [cellB b6 [.int .i64 1, .int .i64 xn, .int .i64 xx, .int .i64 xy] 43] (fun w hw h0 => WriteByte_any b4 p gA gc (prS l k) 121 _ w hp (by omega) h0)) (fun t19 _ => ?_)
   refine s2 ?_
   have i1 : (⟨(Lib.itoa (xn + 1)).toArray⟩ : ByteArray).size ≤ 21 := it_size (n := xn + 1) (by omega) (by omega)
   have i2 : (⟨(Lib.itoa xx).toArray⟩ : ByteArray).size ≤ 21 := it_size (n := xx) (by omega) (by omega)
   have i3 : (⟨(Lib.itoa xy).toArray⟩ : ByteArray).size ≤ 21 := it_size (n := xy) (by omega) (by omega)
   have z1 : (⟨#[32]⟩ : ByteArray).size = 1 := rfl
   have z2 : (⟨#[10]⟩ : ByteArray).size = 1 := rfl
   have y1 : ((⟨(Lib.itoa (xn + 1)).toArray⟩ : ByteArray) ++ ⟨#[32]⟩).size = (⟨(Lib.itoa (xn + 1)).toArray⟩ : ByteArray).size + (⟨#[32]⟩ : ByteArray).size := ByteArray.size_append
   have y2 : (((⟨(Lib.itoa (xn + 1)).toArray⟩ : ByteArray) ++ ⟨#[32]⟩) ++ (⟨(Lib.itoa xx).toArray⟩ : ByteArray)).size = ((⟨(Lib.itoa (xn + 1)).toArray⟩ : ByteArray) ++ ⟨#[32]⟩).size + (⟨(Lib.itoa xx).toArray⟩ : ByteArray).size := ByteArray.size_append
   have y3 : ((((⟨(Lib.itoa (xn + 1)).toArray⟩ : ByteArray) ++ ⟨#[32]⟩) ++ (⟨(Lib.itoa xx).toArray⟩ : ByteArray)) ++ ⟨#[32]⟩).size = (((⟨(Lib.itoa (xn + 1)).toArray⟩ : ByteArray) ++ ⟨#[32]⟩) ++ (⟨(Lib.itoa xx).toArray⟩ : ByteArray)).size + (⟨#[32]⟩ : ByteArray).size := ByteArray.size_append
   have y4 : (((((⟨(Lib.itoa (xn + 1)).toArray⟩ : ByteArray) ++ ⟨#[32]⟩) ++ (⟨(Lib.itoa xx).toArray⟩ : ByteArray)) ++ ⟨#[32]⟩) ++ (⟨(Lib.itoa xy).toArray⟩ : ByteArray)).size = ((((⟨(Lib.itoa (xn + 1)).toArray⟩ : ByteArray) ++ ⟨#[32]⟩) ++ (⟨(Lib.itoa xx).toArray⟩ : ByteArray)) ++ ⟨#[32]⟩).size + (⟨(Lib.itoa xy).toArray⟩ : ByteArray).size := ByteArray.size_append
   have y5 : (lnU (⟨1, xn, xx, xy⟩ : St)).size = (((((⟨(Lib.itoa (xn + 1)).toArray⟩ : ByteArray) ++ ⟨#[32]⟩) ++ (⟨(Lib.itoa xx).toArray⟩ : ByteArray)) ++ ⟨#[32]⟩) ++ (⟨(Lib.itoa xy).toArray⟩ : ByteArray)).size + (⟨#[10]⟩ : ByteArray).size := ByteArray.size_append
   refine J_close [cellB b4 [.pointer (some ⟨b4, 0, none⟩), .slice t19.1 (prS l k ++ (⟨#[121]⟩ : ByteArray)).size t19.2] 144, bytB 5 t19.1 t19.2 (prS l k ++ (⟨#[121]⟩ : ByteArray))] ?_ (hk := (by repeat (first | exact Pk.refl _ | (apply Pk.pick; (repeat (first | exact Rm.here _ | apply Rm.there))))))
   refine kJ [(4, _), (6, _), (10, _), (11, _), (12, _)] ?_
   refine xDx [0, 1, 2, 5, 6, 7, 11, 12, 13, 3, 4, 8, 9, 10, 14, 15, 16, 17] [] [1, 7, 13] [cellB b6 [.int .i64 1, .int .i64 xn, .int .i64 xx, .int .i64 xy] 43] ?_
   refine s9 ?_
   refine dCB rfl (fun w hw => (itoa_back (xn + 1) (by omega) (by omega) w (hT.up hw.bel))) ?_
   refine dP rfl (pCatS rfl rfl rfl (by omega)) ?_
   refine dCB rfl (fun w hw => (fmt_back xx (by omega) (by omega) w (hT.up hw.bel))) ?_
   refine dP rfl (pCatS rfl rfl rfl (by omega)) ?_
   refine dP rfl (pCatS rfl rfl rfl (by omega)) ?_
   refine dCB rfl (fun w hw => (fmt_back xy (by omega) (by omega) w (hT.up hw.bel))) ?_
   refine dP rfl (pCatS rfl rfl rfl (by omega)) ?_
   refine dP rfl (pCatS rfl rfl rfl (by omega)) ?_
   refine dW rfl (oM (fun w hw => ((WriteStr_any b4 _ t19.1 t19.2 (prS l k ++ (⟨#[121]⟩ : ByteArray)) (lnU (⟨1, xn, xx, xy⟩ : St)) _ w (.inr rfl) (by rw [ByteArray.size_append]; have : (⟨#[121]⟩ : ByteArray).size = 1 := rfl; omega) (hw.opn (HA := [cellB b4 [.pointer (some ⟨b4, 0, none⟩), .slice t19.1 (prS l k ++ (⟨#[121]⟩ : ByteArray)).size t19.2] 144, bytB 5 t19.1 t19.2 (prS l k ++ (⟨#[121]⟩ : ByteArray))]) (H1 := []) (by repeat constructor))).mono (fun _ _ h => (RetL.grp (HC := fun t : Option Addr × Nat => [cellB b4 [.pointer (some ⟨b4, 0, none⟩), .slice t.1 ((prS l k ++ (⟨#[121]⟩ : ByteArray)) ++ (lnU (⟨1, xn, xx, xy⟩ : St))).size t.2] 144, bytB 5 t.1 t.2 ((prS l k ++ (⟨#[121]⟩ : ByteArray)) ++ (lnU (⟨1, xn, xx, xy⟩ : St)))]) (HN := fun _ => []) h (fun _ => rfl)).toM)))) (fun t37 _ => ?_)
   refine s3 ?_
   refine J_opn [cellB b4 [.pointer (some ⟨b4, 0, none⟩), .slice t37.1 ((prS l k ++ (⟨#[121]⟩ : ByteArray)) ++ (lnU (⟨1, xn, xx, xy⟩ : St))).size t37.2] 144, bytB 5 t37.1 t37.2 ((prS l k ++ (⟨#[121]⟩ : ByteArray)) ++ (lnU (⟨1, xn, xx, xy⟩ : St)))] ?_ (hk := (by repeat (first | exact Pk.refl _ | (apply Pk.pick; (repeat (first | exact Rm.here _ | apply Rm.there))))))
   dsimp only [List.cons_append, List.nil_append]
   refine kJ [(4, _), (10, _), (11, _), (12, _)] ?_
   refine s4 ?_
   have hs := prS_s (show k < l.length by omega) hx
   exact xR (k + 1, .pointer (some ⟨b4, 0, none⟩), t37.1, t37.2) ⟨by dsimp only; omega, .inr rfl, fun h => absurd h (Nat.succ_ne_zero _)⟩ (by dsimp only; omega) (hl := ⟨rfl, rfl, rfl, (congrArg some (by go_num)), trivial⟩) (hH := by (try dsimp only); rw [← hs]; repeat constructor)
 ·refine s10 ?_
  obtain rfl : k = l.length := by omega
  refine J_fact (fun hw => ?_)
  have hcn := own_cn hw (ty := 5) (k := 1) (A := gA) (m := (prS l l.length).size) (c := gc) (xs := Lib.strCells (prS l l.length)) (by repeat constructor)
  clear hw
  have hge := pr_ge (Nat.le_refl l.length)
  have hA' : gA = none ∨ gc ≠ 0 := by
   rcases Nat.eq_zero_or_pos l.length with h | h
   ·exact .inl (hk0 h)
   ·exact .inr (by have := hcn.1.1; omega)
  have hA0 : gA = none → (prS l l.length).size = 0 := fun h => by have := hcn.2 h; have := hcn.1.1; omega
  refine kJ [(4, _)] ?_
  refine s1 ?_
  refine aW (oL [cellB b4 [p, .slice gA (prS l l.length).size gc] 144, bytB 5 gA gc (prS l l.length)] [] (fun w hw h0 => BString_any b4 p gA gc (prS l l.length) _ w h0 hA' hA0)) (fun _ _ => ?_)
  refine s5 ?_
  refine JR_two rfl (rr_tmp rfl) (rr_tmp rfl) ?_
  intro w' hw
  exact ⟨by rw [show prS l l.length = ⟨(printL l).toArray⟩ by unfold prS; rw [List.take_length]], hw.bel⟩
end Go.Proofs.YtmcpnoailbmkkaaGreatDoor
/- Plain: the text of a position, line by line, read back. -/
namespace Go.Proofs.YtmcpnoailbmkkaaGreatDoor
open Go Go.RowKit Go.Proofs Go.Shelf

def isDig (b : UInt8) : Bool := decide (48 ≤ b.toNat ∧ b.toNat ≤ 57)
def plainB (l : List UInt8) : Bool := !l.isEmpty && l.all isDig
def dval : List Nat → Nat
  | [] => 0
  | d :: ds => d * 10 ^ ds.length + dval ds
def digs (l : List UInt8) : List Nat := l.map fun b => b.toNat - 48
def numN (l : List UInt8) : Nat := dval (digs l)
theorem parse_digits : ∀ (l : List UInt8) (acc : Nat), (∀ b ∈ l, isDig b = true) → acc ≤ 18446744073709551615 →
    Lib.parseUintM 18446744073709551615 acc l = if acc * 10 ^ l.length + numN l ≤ 18446744073709551615 then .ok (acc * 10 ^ l.length + numN l) else .range
  | [], acc, _, h => by simp [Lib.parseUintM, numN, digs, dval, h]
  | c :: l, acc, hd, h => by
    have hc := hd c (by simp)
    simp only [isDig, decide_eq_true_eq] at hc
    have ih := fun a => parse_digits l a (fun b hb => hd b (by simp [hb]))
    have hp : 0 < 10 ^ l.length := Nat.pow_pos (by omega)
    have e : acc * 10 ^ (c :: l).length + numN (c :: l) = (acc * 10 + (c.toNat - 48)) * 10 ^ l.length + numN l := by
      unfold numN
      simp only [digs, List.map_cons, dval, List.length_cons, List.length_map, Nat.pow_succ, Nat.add_mul]
      rw [Nat.mul_comm (10 ^ l.length) 10, ← Nat.mul_assoc]; omega
    rw [e]
    have hge : ∀ a, a ≤ a * 10 ^ l.length := fun a => Nat.le_mul_of_pos_right a hp
    have := hge (acc * 10 + (c.toNat - 48))
    simp only [Lib.parseUintM, if_pos hc]
    by_cases h1 : 1844674407370955162 ≤ acc
    · rw [if_pos h1, if_neg (by omega)]
    · rw [if_neg h1]
      by_cases h2 : 18446744073709551615 < acc * 10 + (c.toNat - 48)
      · rw [if_pos h2, if_neg (by omega)]
      · rw [if_neg h2]; exact ih _ (by omega)
theorem parse_plain {l : List UInt8} (h : plainB l = true) : Lib.parseUintB 64 l = if numN l ≤ 18446744073709551615 then .ok (numN l) else .range := by
  unfold plainB at h
  simp only [Bool.and_eq_true, Bool.not_eq_true', List.isEmpty_eq_false_iff] at h
  unfold Lib.parseUintB
  rw [if_neg h.1]
  have := parse_digits l 0 (fun b hb => List.all_eq_true.1 h.2 b hb) (by omega)
  simpa using this
theorem dval_snoc : ∀ (l : List Nat) (d : Nat), dval (l ++ [d]) = dval l * 10 + d
  | [], d => by simp [dval]
  | e :: l, d => by
    have ih := dval_snoc l d
    simp only [List.cons_append, dval, ih, List.length_append, List.length_cons, List.length_nil]
    rw [Nat.pow_succ]; grind
theorem numN_snoc (l : List UInt8) (b : UInt8) : numN (l ++ [b]) = numN l * 10 + (b.toNat - 48) := by
  unfold numN digs; rw [List.map_append]; exact dval_snoc _ _
theorem numN_cons (b : UInt8) (l : List UInt8) : numN (b :: l) = (b.toNat - 48) * 10 ^ l.length + numN l := by
  unfold numN digs; simp [dval]
theorem ofNat_dig {d : Nat} (h : d ≤ 9) : (UInt8.ofNat (48 + d)).toNat = 48 + d := by simp; omega
theorem isDig_ofNat {d : Nat} (h : d ≤ 9) : isDig (UInt8.ofNat (48 + d)) = true := by unfold isDig; rw [ofNat_dig h]; simp; omega
theorem dd_all (u : Nat) : (Lib.decDigits u).all isDig = true ∧ Lib.decDigits u ≠ [] ∧ numN (Lib.decDigits u) = u ∧ (1 ≤ u → (Lib.decDigits u).getD 0 0 ≠ 48) := by
  induction u using Nat.strongRecOn with
  | _ u ih =>
    rw [Lib.decDigits]
    by_cases h : u < 10
    · rw [dif_pos h]
      refine ⟨by simp only [List.all_cons, List.all_nil, isDig_ofNat (show u ≤ 9 by omega), Bool.and_true], by simp, ?_, ?_⟩
      · rw [numN_cons, ofNat_dig (by omega)]; simp [numN, digs, dval]
      · intro h1 e
        have : (UInt8.ofNat (48 + u)).toNat = 48 := by rw [show UInt8.ofNat (48 + u) = 48 from e]; rfl
        rw [ofNat_dig (by omega)] at this; omega
    · rw [dif_neg h]
      obtain ⟨i1, i2, i3, i4⟩ := ih (u / 10) (by omega)
      refine ⟨by rw [List.all_append, i1]; simp only [List.all_cons, List.all_nil, isDig_ofNat (show u % 10 ≤ 9 by omega), Bool.and_true], by simp, ?_, ?_⟩
      · rw [numN_snoc, i3, ofNat_dig (by omega)]; omega
      · intro _
        have := i4 (by omega)
        cases hd : Lib.decDigits (u / 10) with
        | nil => exact absurd hd i2
        | cons b l => rw [hd] at this; simpa using this
theorem plainB_of {l : List UInt8} (h1 : l.all isDig = true) (h2 : l ≠ []) : plainB l = true := by
  unfold plainB; rw [h1]; cases l
  · exact absurd rfl h2
  · rfl

theorem signed_ok {u : Nat} (h : u ≤ 9223372036854775808) : Lib.signedC (2 ^ (64 - 1)) (Lib.NumEnd.ok u) = Lib.NumEnd.ok (-(u : Int)) := by
  have e : (2 : Nat) ^ (64 - 1) = 9223372036854775808 := by decide
  rw [e]
  show (if 9223372036854775808 < u then _ else _) = _
  rw [if_neg (by omega)]
theorem signless_ok {u : Nat} (h : u < 9223372036854775808) : Lib.signlessC (2 ^ (64 - 1)) (Lib.NumEnd.ok u) = Lib.NumEnd.ok (u : Int) := by
  have e : (2 : Nat) ^ (64 - 1) = 9223372036854775808 := by decide
  rw [e]
  show (if 9223372036854775808 ≤ u then _ else _) = _
  rw [if_neg (by omega)]
theorem parse_itoa {m : Int} (h0 : -9223372036854775808 ≤ m) (h1 : m ≤ 9223372036854775807) : Lib.parseIntB 64 (Lib.itoa m) = .ok m := by
  unfold Lib.itoa
  obtain ⟨d1, d2, d3, -⟩ := dd_all m.natAbs
  by_cases hn : m < 0
  · rw [if_pos hn, Lib.parseIntB_minus, parse_plain (plainB_of d1 d2), d3, if_pos (by omega), signed_ok (by omega)]
    congr 1; omega
  · rw [if_neg hn]
    obtain ⟨e1, e2, e3, -⟩ := dd_all m.toNat
    cases hl : Lib.decDigits m.toNat with
    | nil => exact absurd hl e2
    | cons c r =>
      rw [hl] at e1 e2 e3
      have hc : isDig c = true := List.all_eq_true.1 e1 c (by simp)
      simp only [isDig, decide_eq_true_eq] at hc
      rw [Lib.parseIntB_plain _ _ _ (by omega) (by omega), parse_plain (plainB_of e1 e2), e3, if_pos (by omega), signless_ok (by omega)]
      congr 1; omega
/-- A text is that of an integer of at most 18 digits. -/
def intOk (l : List UInt8) (n : Int) : Prop := l = Lib.itoa n ∧ (-9223372036854775808 ≤ n ∧ n ≤ 9223372036854775807) ∧ (Lib.trimPrefix l [45]).length ≤ 18
def partsB (s : ByteArray) : List ByteArray := Lib.splitB ⟨#[32]⟩ 0 (Lib.countB s ⟨#[32]⟩) s
theorem cut_uniq {c : UInt8} : ∀ {a a' r r' : List UInt8}, a ++ c :: r = a' ++ c :: r' → c ∉ a → c ∉ a' → a = a' ∧ r = r'
  | [], [], _, _, h, _, _ => by simp at h; exact ⟨rfl, h⟩
  | [], b :: _, _, _, h, _, h2 => by simp at h; exact absurd (by simp [h.1]) h2
  | b :: _, [], _, _, h, h1, _ => by simp at h; exact absurd (by simp [h.1]) h1
  | b :: a, b' :: a', r, r', h, h1, h2 => by
    simp only [List.cons_append, List.cons.injEq] at h
    obtain ⟨rfl, h⟩ := h
    obtain ⟨rfl, h3⟩ := cut_uniq h (fun h => h1 (by simp [h])) (fun h => h2 (by simp [h]))
    exact ⟨rfl, h3⟩

/-- Parts joined by c. -/
def joinC (c : UInt8) : List (List UInt8) → List UInt8
  | [] => []
  | [a] => a
  | a :: b :: l => a ++ c :: joinC c (b :: l)
theorem joinC_uniq {c : UInt8} : ∀ {l l' : List (List UInt8)}, l ≠ [] → l' ≠ [] → joinC c l = joinC c l' → (∀ p ∈ l, c ∉ p) → (∀ p ∈ l', c ∉ p) → l = l'
  | [], _, h, _, _, _, _ => absurd rfl h
  | _ :: _, [], _, h, _, _, _ => absurd rfl h
  | [a], [a'], _, _, h, _, _ => by simp [joinC] at h; rw [h]
  | [a], a' :: b' :: l', _, _, h, h1, _ => by
    simp only [joinC] at h
    exact absurd (by rw [h]; simp) (h1 a (by simp))
  | a :: b :: l, [a'], _, _, h, _, h2 => by
    simp only [joinC] at h
    exact absurd (by rw [← h]; simp) (h2 a' (by simp))
  | a :: b :: l, a' :: b' :: l', _, _, h, h1, h2 => by
    simp only [joinC] at h
    obtain ⟨rfl, h3⟩ := cut_uniq h (h1 a (by simp)) (h2 a' (by simp))
    rw [joinC_uniq (l := b :: l) (l' := b' :: l') (by simp) (by simp) h3 (fun p hp => h1 p (by simp only [List.mem_cons] at hp ⊢; exact .inr hp)) (fun p hp => h2 p (by simp only [List.mem_cons] at hp ⊢; exact .inr hp))]

theorem occ_one {s : List UInt8} {c : UInt8} {j : Nat} : Lib.occAt s [c] j = true ↔ s[j]? = some c := by
  constructor
  · exact fun h => Lib.occAt_head rfl h
  · intro h
    obtain ⟨hj, he⟩ := List.getElem?_eq_some_iff.1 h
    unfold Lib.occAt
    rw [List.drop_eq_getElem_cons hj, he]; simp
theorem index_one {s : List UInt8} {c : UInt8} : (Lib.index s [c] = -1 ∧ c ∉ s) ∨ (∃ i : Nat, Lib.index s [c] = i ∧ i < s.length ∧ s = s.take i ++ c :: s.drop (i + 1) ∧ c ∉ s.take i) := by
  rcases Lib.index_spec s [c] with ⟨h1, h2⟩ | ⟨i, h1, h2, h3, h4⟩
  · refine .inl ⟨h1, fun hm => ?_⟩
    obtain ⟨j, hj, he⟩ := List.getElem_of_mem hm
    have := h2 j (by omega)
    rw [Bool.eq_false_iff] at this
    exact this (occ_one.2 (by rw [List.getElem?_eq_getElem hj, he]))
  · obtain ⟨hi, he⟩ := List.getElem?_eq_some_iff.1 (occ_one.1 h3)
    refine .inr ⟨i, h1, hi, ?_, fun hm => ?_⟩
    · conv => lhs; rw [← List.take_append_drop i s, List.drop_eq_getElem_cons hi, he]
    · obtain ⟨j, hj, hje⟩ := List.getElem_of_mem hm
      rw [List.length_take] at hj
      rw [List.getElem_take] at hje
      have := h4 j (by omega)
      rw [Bool.eq_false_iff] at this
      exact this (occ_one.2 (by rw [List.getElem?_eq_getElem (by omega), hje]))

theorem parts_join {c : UInt8} : ∀ (k : Nat) (s : ByteArray), Lib.countB s ⟨#[c]⟩ = k →
    joinC c ((Lib.splitB ⟨#[c]⟩ 0 k s).map (·.data.toList)) = s.data.toList ∧ ∀ p ∈ (Lib.splitB ⟨#[c]⟩ 0 k s).map (·.data.toList), c ∉ p := by
  intro k
  induction k with
  | zero =>
    intro s hk
    rw [Lib.splitB_zero]
    refine ⟨rfl, ?_⟩
    intro p hp
    simp only [List.map_cons, List.map_nil, List.mem_singleton] at hp
    subst hp
    rcases index_one (s := s.data.toList) (c := c) with ⟨-, h⟩ | ⟨i, h1, -⟩
    · exact h
    · have := Lib.countB_hit s ⟨#[c]⟩ i (Nat.le_refl 1) h1
      omega
  | succ k ih =>
    intro s hk
    rcases index_one (s := s.data.toList) (c := c) with ⟨h1, -⟩ | ⟨i, h1, h2, h3, h4⟩
    · have := Lib.countB_miss s ⟨#[c]⟩ h1
      omega
    · have hc := Lib.countB_hit s ⟨#[c]⟩ i (Nat.le_refl 1) h1
      have e1 : (⟨#[c]⟩ : ByteArray).size = 1 := rfl
      rw [e1] at hc
      rw [Lib.splitB_hit _ _ _ _ _ h1, e1]
      obtain ⟨j1, j2⟩ := ih (s.extract (i + 1) s.size) (by omega)
      have et : (s.extract 0 (i + 0)).data.toList = s.data.toList.take i := by rw [Nat.add_zero]; exact Lib.extract_from_zero s i
      have ed : (s.extract (i + 1) s.size).data.toList = s.data.toList.drop (i + 1) := by
        rw [Lib.extract_data, List.take_of_length_le (by rw [List.length_drop, ← Lib.size_eq]; omega)]
      rw [ed] at j1
      constructor
      · rw [List.map_cons, et]
        cases hl : (Lib.splitB ⟨#[c]⟩ 0 k (s.extract (i + 1) s.size)).map (·.data.toList) with
        | nil =>
          rw [hl] at j1
          have := Lib.splitB_all ⟨#[c]⟩ (Nat.le_refl 1) 0 k (s.extract (i + 1) s.size) (by omega)
          have h0 := congrArg List.length hl
          rw [List.length_map, this] at h0
          simp at h0
        | cons a l =>
          rw [hl] at j1
          show _ ++ c :: joinC c (a :: l) = _
          rw [j1]; exact h3.symm
      · intro p hp
        rw [List.map_cons, et, List.mem_cons] at hp
        rcases hp with rfl | hp
        · exact h4
        · exact j2 p hp
theorem parts_of {s : ByteArray} {l : List (List UInt8)} (hl : l ≠ []) (h : s.data.toList = joinC 32 l) (hn : ∀ p ∈ l, (32 : UInt8) ∉ p) : (partsB s).map (·.data.toList) = l := by
  obtain ⟨h1, h2⟩ := parts_join _ s rfl
  refine joinC_uniq ?_ hl (h1.trans h) h2 hn
  intro e
  have := congrArg List.length e
  rw [List.length_map] at this
  have h3 := Lib.splitB_all ⟨#[32]⟩ (by decide) 0 _ s rfl
  unfold partsB at this
  rw [h3] at this
  simp at this

/-- A number that a text may name. -/
def numOk (n : Int) : Prop := (-9223372036854775808 ≤ n ∧ n ≤ 9223372036854775807) ∧ (Lib.trimPrefix (Lib.itoa n) [45]).length ≤ 18
theorem intOk_iff {l : List UInt8} {n : Int} : intOk l n ↔ l = Lib.itoa n ∧ numOk n :=
  ⟨fun ⟨h1, h2, h3⟩ => ⟨h1, h2, by rw [← h1]; exact h3⟩, fun ⟨h1, h2, h3⟩ => ⟨h1, h2, by rw [h1]; exact h3⟩⟩
def okTx (t : St) : Prop := (t.t = 0 ∨ t.t = 1) ∧ (0 ≤ t.n ∧ t.n ≤ 7) ∧ numOk t.x ∧ numOk t.y
/-- The line of a stone, without its end. -/
def lineB (t : St) : List UInt8 := (if t.t = 1 then 121 else 114) :: (Lib.itoa (t.n + 1) ++ 32 :: (Lib.itoa t.x ++ 32 :: Lib.itoa t.y))
theorem lineL_eq (t : St) : lineL t = lineB t ++ [10] := by unfold lineL lineB restL; simp
def lineOk (l : List UInt8) (t : St) : Prop := okTx t ∧ l = lineB t

theorem itoa_byte {n : Int} {x : UInt8} (h : x ∈ Lib.itoa n) : x = 45 ∨ isDig x = true := by
  unfold Lib.itoa at h
  split at h
  · rcases List.mem_cons.1 h with h | h
    · exact .inl h
    · exact .inr (List.all_eq_true.1 (dd_all n.natAbs).1 x h)
  · exact .inr (List.all_eq_true.1 (dd_all n.toNat).1 x h)
theorem itoa_no {n : Int} {c : UInt8} (h1 : c ≠ 45) (h2 : isDig c = false) : c ∉ Lib.itoa n := by
  intro h
  rcases itoa_byte h with h | h
  · exact h1 h
  · rw [h2] at h; cases h
theorem itoa_name {n : Int} (h0 : 0 ≤ n) (h1 : n ≤ 7) : Lib.itoa (n + 1) = [UInt8.ofNat (49 + n.toNat)] := by
  unfold Lib.itoa
  rw [if_neg (by omega), Lib.decDigits, dif_pos (by omega)]
  congr 2
  omega
def stL (a b d : List UInt8) (t : St) : Prop :=
  t.t = Lib.indexByte [114, 121] (a.getD 0 0) ∧ t.n = (a.getD 1 0).toNat - 49 ∧ intOk b t.x ∧ intOk d t.y ∧ 0 ≤ t.t ∧ 0 ≤ t.n ∧ t.n ≤ 7
theorem letter_iff {c : UInt8} {t : Int} : (t = Lib.indexByte [114, 121] c ∧ 0 ≤ t) ↔ ((t = 0 ∨ t = 1) ∧ c = if t = 1 then 121 else 114) := by
  have h114 : (114 : UInt8) ≠ 121 := by decide
  unfold Lib.indexByte
  by_cases h1 : c = 114
  · subst h1
    simp only [beq_self_eq_true, if_true]
    constructor
    · rintro ⟨rfl, -⟩; simp
    · rintro ⟨rfl | rfl, h⟩
      · simp
      · simp at h
  · have e1 : ((114 : UInt8) == c) = false := by rw [beq_eq_false_iff_ne]; exact fun h => h1 h.symm
    rw [e1]
    unfold Lib.indexByte
    by_cases h2 : c = 121
    · subst h2
      simp only [beq_self_eq_true, if_true]
      constructor
      · rintro ⟨h, -⟩; have : t = 1 := by simpa using h
        subst this; simp
      · rintro ⟨rfl | rfl, h⟩
        · simp at h
        · simp
    · have e2 : ((121 : UInt8) == c) = false := by rw [beq_eq_false_iff_ne]; exact fun h => h2 h.symm
      rw [e2]
      unfold Lib.indexByte
      constructor
      · rintro ⟨h, h0⟩; simp at h; omega
      · rintro ⟨rfl | rfl, h⟩
        · simp at h; exact absurd h h1
        · simp at h; exact absurd h h2
theorem line_iff {l a b d : List UInt8} (hl : l = a ++ 32 :: (b ++ 32 :: d)) (ha : (32 : UInt8) ∉ a) (hb : (32 : UInt8) ∉ b) (t : St) : lineOk l t ↔ a.length = 2 ∧ stL a b d t := by
  have n32 : ∀ n, (32 : UInt8) ∉ Lib.itoa n := fun n => itoa_no (by decide) (by decide)
  obtain ⟨tt, n, x, y⟩ := t
  unfold lineOk okTx stL
  simp only
  constructor
  · rintro ⟨⟨k1, k2, k3, k4⟩, h⟩
    unfold lineB at h
    simp only at h
    rw [hl] at h
    rw [itoa_name k2.1 k2.2] at h
    have h' : a ++ 32 :: (b ++ 32 :: d) = [if tt = 1 then 121 else 114, UInt8.ofNat (49 + n.toNat)] ++ 32 :: (Lib.itoa x ++ 32 :: Lib.itoa y) := h
    have hno : (32 : UInt8) ∉ [if tt = 1 then (121 : UInt8) else 114, UInt8.ofNat (49 + n.toNat)] := by
      intro hm
      simp only [List.mem_cons, List.not_mem_nil, or_false] at hm
      rcases hm with hm | hm
      · split at hm <;> simp at hm
      · have := congrArg UInt8.toNat hm
        simp at this; omega
    obtain ⟨e1, e2⟩ := cut_uniq h' ha hno
    obtain ⟨e3, e4⟩ := cut_uniq e2 hb (n32 _)
    subst e1 e3 e4
    refine ⟨rfl, ?_⟩
    obtain ⟨f1, f2⟩ := letter_iff.2 ⟨k1, rfl⟩
    refine ⟨f1, ?_, intOk_iff.2 ⟨rfl, k3⟩, intOk_iff.2 ⟨rfl, k4⟩, f2, k2.1, k2.2⟩
    show n = ((UInt8.ofNat (49 + n.toNat)).toNat : Int) - 49
    simp; omega
  · rintro ⟨h2, k1, k2, k3, k4, k5, k6, k7⟩
    match a, h2 with
    | [c, e], _ =>
      have k1' : tt = Lib.indexByte [114, 121] c := k1
      have k2' : n = (e.toNat : Int) - 49 := k2
      obtain ⟨f1, f2⟩ := letter_iff.1 ⟨k1', k5⟩
      rw [intOk_iff] at k3 k4
      refine ⟨⟨f1, ⟨k6, k7⟩, k3.2, k4.2⟩, ?_⟩
      unfold lineB
      simp only
      rw [hl, itoa_name k6 k7, ← k3.1, ← k4.1, ← f2]
      have : e = UInt8.ofNat (49 + n.toNat) := by
        apply UInt8.toNat_inj.1
        have := e.toNat_lt
        simp; omega
      rw [← this]; rfl
theorem print_cons (t : St) (l : List St) (r : List UInt8) : printL (t :: l) ++ r = lineB t ++ 10 :: (printL l ++ r) := by
  unfold printL; rw [List.flatMap_cons, lineL_eq]; simp
theorem print_cons0 (t : St) (l : List St) : printL (t :: l) = lineB t ++ 10 :: printL l := by
  have := print_cons t l []; simpa using this
theorem lineB_no (t : St) : (10 : UInt8) ∉ lineB t := by
  have n10 : ∀ n, (10 : UInt8) ∉ Lib.itoa n := fun n => itoa_no (by decide) (by decide)
  unfold lineB
  intro hm
  simp only [List.mem_cons, List.mem_append] at hm
  rcases hm with hm | hm | hm | hm | hm | hm
  · split at hm <;> simp at hm
  · exact n10 _ hm
  · simp at hm
  · exact n10 _ hm
  · simp at hm
  · exact n10 _ hm
theorem trim_minus (r : List UInt8) : Lib.trimPrefix (45 :: r) [45] = r := by unfold Lib.trimPrefix Lib.hasPrefix; simp
theorem trim_plain {r : List UInt8} (h : ∀ r', r ≠ 45 :: r') : Lib.trimPrefix r [45] = r := by
  unfold Lib.trimPrefix Lib.hasPrefix
  cases r with
  | nil => rfl
  | cons c r =>
    have : c ≠ 45 := fun e => h r (by rw [e])
    have e : ([45] : List UInt8).isPrefixOf (c :: r) = false := by
      rw [Bool.eq_false_iff]; intro h'; simp at h'; exact this h'.symm
    rw [e]; rfl
theorem dd_head (u : Nat) : ∀ r', Lib.decDigits u ≠ 45 :: r' := by
  intro r' h
  have := (dd_all u).1
  rw [h] at this
  simp [isDig] at this
theorem dd_short : ∀ (k u : Nat), u < 10 ^ (k + 1) → (Lib.decDigits u).length ≤ k + 1
  | 0, u, h => by rw [Lib.decDigits, dif_pos (by omega)]; simp
  | k + 1, u, h => by
    rw [Lib.decDigits]
    split
    · simp
    · have h1 : u / 10 < 10 ^ (k + 1) := by rw [Nat.pow_succ] at h; omega
      have := dd_short k (u / 10) h1
      rw [List.length_append]; simp; omega
theorem okT_of {t : St} (h : okSt t) : okTx t := by
  obtain ⟨⟨h1, h2⟩, h3, -⟩ := h
  have key : ∀ n : Int, -6553600000 ≤ n → n ≤ 6553600000 → numOk n := fun n ha hb => by
    refine ⟨⟨by omega, by omega⟩, ?_⟩
    unfold Lib.itoa
    have hd : ∀ u : Nat, u ≤ 6553600000 → (Lib.decDigits u).length ≤ 18 := fun u hu => by
      have h1 : u < 10 ^ (17 + 1) := by
        have h3 : (10 : Nat) ^ (17 + 1) = 1000000000000000000 := by decide
        omega
      exact dd_short 17 u h1
    split
    · rw [trim_minus]; exact hd _ (by omega)
    · rw [trim_plain (dd_head _)]; exact hd _ (by omega)
  unfold OkS at h3
  exact ⟨by omega, h2, key _ h3.1.1 h3.1.2, key _ h3.2.1 h3.2.2⟩
theorem pr_drop {l : List St} {k : Nat} {s : St} (h : k < l.length) (hs : l[k]'h = s) : printL (l.drop k) = lineB s ++ 10 :: printL (l.drop (k + 1)) := by
 rw [List.drop_eq_getElem_cons h, hs, print_cons0]
theorem ix_line : ∀ {a r : List UInt8}, (10 : UInt8) ∉ a → Lib.indexByte (a ++ 10 :: r) 10 = (a.length : Nat) := by
 intro a
 induction a with
 | nil => intro r _; rfl
 | cons x a ih =>
  intro r h
  have h1 := ih (r := r) (fun h2 => h (List.mem_cons_of_mem _ h2))
  show (if x == 10 then 0 else if Lib.indexByte (a ++ 10 :: r) 10 == -1 then -1 else Lib.indexByte (a ++ 10 :: r) 10 + 1) = _
  have hx : (x == 10) = false := by rw [beq_eq_false_iff_ne]; exact fun e => h (by rw [e]; simp)
  rw [hx, h1, show (((a.length : Nat) : Int) == -1) = false by rw [beq_eq_false_iff_ne]; omega]
  simp
/-- What is left of a text behind its first k lines; a line. -/
def rsS (l : List St) (k : Nat) : ByteArray := ⟨(printL (l.drop k)).toArray⟩
def lnS2 (s : St) : ByteArray := ⟨(lineB s ++ [10]).toArray⟩
theorem rs_end (l : List St) : rsS l l.length = ⟨#[]⟩ := by unfold rsS; rw [List.drop_length]; rfl
theorem rs_size {l : List St} {k : Nat} {s : St} (h : k < l.length) (hs : l[k]'h = s) : (lineB s).length + 1 ≤ (rsS l k).size := by
 show _ ≤ (printL (l.drop k)).length
 rw [pr_drop h hs]; simp
theorem rs_ix {l : List St} {k : Nat} {s : St} (h : k < l.length) (hs : l[k]'h = s) : Lib.indexByte (rsS l k).data.toList 10 = ((lineB s).length : Nat) := by
 show Lib.indexByte (printL (l.drop k)) 10 = _
 rw [pr_drop h hs]; exact ix_line (lineB_no s)
theorem rs_to {l : List St} {k : Nat} {s : St} (h : k < l.length) (hs : l[k]'h = s) : (rsS l k).extract 0 ((lineB s).length + 1) = lnS2 s := by
 refine ba_ext ?_
 unfold rsS lnS2
 rw [pr_drop h hs, ByteArray.data_extract]
 simp [List.take_append, List.take_of_length_le (Nat.le_succ (lineB s).length)]
theorem rs_from {l : List St} {k : Nat} {s : St} (h : k < l.length) (hs : l[k]'h = s) : (rsS l k).extract ((lineB s).length + 1) (rsS l k).size = rsS l (k + 1) := by
 refine ba_ext ?_
 have e : (rsS l k).size = (printL (l.drop k)).length := rfl
 rw [e, ByteArray.data_extract]
 unfold rsS
 rw [pr_drop h hs]
 have e1 : List.drop ((lineB s).length + 1) (lineB s) = [] := List.drop_of_length_le (Nat.le_succ _)
 simp [List.drop_append, e1]
 rw [List.take_of_length_le (by omega)]
theorem ln_suf (s : St) : Lib.hasSuffix (lnS2 s).data.toList [10] = true ∧ Lib.trimSuffix (lnS2 s).data.toList [10] = lineB s := by
 have h : Lib.hasSuffix (lnS2 s).data.toList [10] = true := by
  unfold Lib.hasSuffix lnS2
  exact List.isSuffixOf_iff_suffix.2 ⟨lineB s, rfl⟩
 refine ⟨h, ?_⟩
 unfold Lib.trimSuffix
 rw [if_pos h]
 unfold lnS2
 simp
/-- A line is cut at its blanks. -/
theorem ln_parts {t : St} : partsB ⟨(lineB t).toArray⟩ = [⟨((if t.t = 1 then 121 else 114) :: Lib.itoa (t.n + 1)).toArray⟩, itB t.x, itB t.y] := by
 have n32 : ∀ n, (32 : UInt8) ∉ Lib.itoa n := fun n => itoa_no (by decide) (by decide)
 have h1 := parts_of (s := ⟨(lineB t).toArray⟩) (l := [(if t.t = 1 then 121 else 114) :: Lib.itoa (t.n + 1), Lib.itoa t.x, Lib.itoa t.y]) (by simp) rfl (fun p hp => by
  simp only [List.mem_cons, List.not_mem_nil, or_false] at hp
  rcases hp with rfl | rfl | rfl
  ·intro hm
   rcases List.mem_cons.1 hm with hm | hm
   ·split at hm <;> simp at hm
   ·exact n32 _ hm
  ·exact n32 _
  ·exact n32 _)
 have h2 : ∀ (a : List ByteArray) (b : List (List UInt8)), a.map (·.data.toList) = b → a = b.map (fun x => ⟨x.toArray⟩) := fun a => by
  induction a with
  | nil => intro b hb; cases b with | nil => rfl | cons => cases hb
  | cons x a ih =>
   intro b hb
   cases b with
   | nil => cases hb
   | cons y b =>
    simp only [List.map_cons, List.cons.injEq] at hb
    rw [ih b hb.2, List.map_cons]
    congr 1
    exact ba_ext hb.1
 exact h2 _ _ h1
end Go.Proofs.YtmcpnoailbmkkaaGreatDoor
/- Closed facts of the program, as instances. -/
namespace Go.Proofs.YtmcpnoailbmkkaaGreatDoor
open Go Go.RowKit Go.Proofs

instance gv_1 : Cf Tryz.prog 182 := ⟨fun _ _ => by kernel_rfl⟩
instance gv_2 : Cf Tryz.prog 250 := ⟨fun _ _ => by kernel_rfl⟩
end Go.Proofs.YtmcpnoailbmkkaaGreatDoor
/- A range over a function that is left by a break. Over any program. -/
namespace Go.Proofs.YtmcpnoailbmkkaaGreatDoor
open Go Go.RowKit Go.Proofs Go.Shelf
section
variable {P : Program} {n : Nat} {B : Bs} {Q : Exit → Act → World → Prop} {l : Sl} {H H' : List It} {c : Code} {w w' : World}
/-- A range over a function whose last round leaves the loop by a break. -/
def ItrB (P : Program) {T Y : Type} (f : FuncId) (caps : Array Value) (B : Bs) (φ : T → Prop) (HH : T → It → List It) (Yk Yx : T → Y → Prop) (V : Y → Value) (Rn : T → T → Prop) (fin ini : T → Prop) : Prop :=
 ∀ (lp : Nat) (X X2 : It) (t0 : T) (W : World), φ t0 → ini t0 → Wd B (HH t0 X) W →
  (∀ t y W1, φ t → Yk t y → Wd B (HH t X) W1 → ∀ m, YieldAt Fence.wide m P lp #[V y] W1 (fun e W2 => e = .returned (.bool true) ∧ ∃ t', Rn t t' ∧ φ t' ∧ Wd B (HH t' X) W2)) →
  (∀ t y W1, φ t → Yx t y → Wd B (HH t X) W1 → ∀ m, YieldAt Fence.wide m P lp #[V y] W1 (fun e W2 => e = .returned (.bool false) ∧ ∃ t', fin t' ∧ Wd B (HH t' X2) W2)) →
  Calls P f (#[.func (.yield lp) #[] #[]] ++ caps) W (fun e W' => (∃ v, e = .returned v) ∧ ∃ t, fin t ∧ Wd B (HH t X2) W')
/-- Left by a break to such a block. -/
def BrkP {T : Type} (B : Bs) (id : Nat) (φ : T → Prop) (HH : T → List It) : Exit → Act → World → Prop
 | .exit i, _, w => i = id ∧ ∃ t, φ t ∧ Wd B (HH t) w
 | _, _, _ => False
theorem JQ_brk {T : Type} {φ : T → Prop} {HH : T → List It} {id : Nat} (t : T) (h0 : φ t) (hH : Pk (HH t) H := by repeat constructor) : JQ n B (BrkP B id φ HH) (.exit id) l H := fun _ _ _ hw => ⟨rfl, t, h0, hw.pick hH⟩
set_option maxHeartbeats 2000000 in
theorem J_rangeB {T Y : Type} {g : Operand} {p id : Nat} {assign body : Code} {f : FuncId} {caps : Array Value} [hf : Cf P f] (φ : T → Prop) (HH : T → It → List It) (Yk Yx : T → Y → Prop) (V : Y → Value) (Rn : T → T → Prop) (fin ini : T → Prop) {Ds : List Nat} (l1 : Y → Sl)
  (hit : ItrB P f caps ⟨B.w, B.m, none, []⟩ φ HH Yk Yx V Rn fin ini) (t0 : T) (h0 : φ t0) (hi0 : ini t0)
  (has : ∀ lp t y X, φ t → J P n ⟨B.w, B.m, some lp, []⟩ assign (Exit.then (CutP n ⟨B.w, B.m, some lp, []⟩ (fun _ : Unit => True) (fun _ => l1 y) (fun _ => HH t X)) (fun _ _ _ => False)) ((p, V y) :: l) (HH t X))
  (hbd : ∀ lp t y X, φ t → Yk t y → J P n ⟨B.w, B.m, some lp, []⟩ body (Exit.then (CutP n ⟨B.w, B.m, some lp, []⟩ (fun t' => Rn t t' ∧ φ t') (fun _ => []) (fun t' => HH t' X)) (fun _ _ _ => False)) (l1 y) (HH t X))
  (hbx : ∀ lp t y X, φ t → Yx t y → J P n ⟨B.w, B.m, some lp, []⟩ body (BrkP ⟨B.w, B.m, some lp, []⟩ id fin (fun t' => HH t' X)) (l1 y) (HH t X))
  (k : ∀ D t, fin t → JQ n ⟨B.w, B.m, none, (D :: Ds).map mark⟩ Q (.exit id) l (HH t (defsB (D :: Ds))))
  (hr : B.r = none := by rfl) (hd : B.d = Ds.map mark := by rfl) (hg : evl l g = some (.func (.func f) #[] caps) := by rfl) (hp : Nat.ble n p = false := by rfl)
  (hH : Pk (HH t0 (defsB Ds)) H := by repeat constructor) (a1 : ∀ t A C, At A C (HH t A) (HH t C) := by intro t A C; repeat constructor) :
 J P n B (.rangeFunc g #[p] assign body) Q l H := by
 intro a w ha hw m
 rw [hr]
 have hF := hf.h
 have hw0 : Wd ⟨B.w, B.m, none, []⟩ (HH t0 (defsB Ds)) w := (hw.pick hH).re _ _
 clear hw hH
 refine wpIn_rangeFunc ?_
 intro fn hfn
 obtain ⟨rec, hrec⟩ : ∃ rec : LoopState → Option Code → Loop, rec = fun st pe => { state := st, pending := pe, fn, tmps := a.tmps, params := #[p], assign, body, defers := w.heap.size } := ⟨_, rfl⟩
 obtain ⟨W1, hW1⟩ : ∃ W1, (w.alloc (.deferred (some []))).alloc (.loop (rec .ready none)) = W1 := ⟨_, rfl⟩
 have hL1 : W1.heap[w.heap.size + 1]? = some (.loop (rec .ready none)) := by
  rw [← hW1]; have := World.alloc_heap_new (w.alloc (.deferred (some []))) (.loop (rec .ready none)); rwa [World.size_alloc] at this
 have hK1 : W1.heap[w.heap.size]? = some (.deferred (some [])) := by
  rw [← hW1]; exact (Below.heap_alloc _ _ _ (by simp)).trans (World.alloc_heap_new w _)
 have hb1 : Below w.heap.size w W1 := by rw [← hW1]; exact ((Below.refl _ _).alloc (Nat.le_refl _) _).alloc (by simp) _
 have hz1 : W1.heap.size = w.heap.size + 2 := by rw [← hW1]; simp
 have hmem := (a1 t0 (defsB Ds) (defsB Ds)).mem
 have hD0 := hw0.ok _ hmem
 have hnew : w.heap.size ∉ Ds := fun h => Nat.lt_irrefl _ (hD0.2 _ h).2
 have hnew1 : w.heap.size + 1 ∉ Ds := fun h => by have := (hD0.2 _ h).2; omega
 have hw1 : Wd ⟨B.w, B.m, none, []⟩ (HH t0 (loopB (w.heap.size + 1) (rec .ready none) (w.heap.size :: Ds))) W1 := by
  refine hw0.chg (a1 t0 _ _) rfl rfl ⟨hb1.os, hb1.tape, hb1.output, hb1.size, fun b hb _ => hb1.block b hb⟩ ⟨by simp [hnew1], List.nodup_cons.2 ⟨hnew, hD0.1.1⟩, hL1, fun D hD => ?_⟩ (fun b hb => ?_)
  ·rcases List.mem_cons.1 hD with rfl | hD
   ·exact hK1
   ·exact (hb1.block D (hD0.2 D hD).2).trans (hD0.1.2 D hD)
  ·rcases hb with rfl | hb
   ·exact ⟨.inr (by omega), by omega⟩
   ·rcases List.mem_cons.1 hb with rfl | hb
    ·exact ⟨.inr (Nat.le_refl _), by omega⟩
    ·exact ⟨.inl hb, by have := (hD0.2 b hb).2; omega⟩
 refine ⟨w.heap.size + 1, [mark w.heap.size], W1, { target := .fn (.func f) caps, args := #[.func (.yield (w.heap.size + 1)) #[] #[]] }, W1, f,
  #[.func (.yield (w.heap.size + 1)) #[] #[]] ++ caps, W1, ?_, ?_, ?_, ?_, fun h => (by cases h), ?_⟩
 ·rw [← hW1, hrec]; exact run_enterLoop_outer _ _ _ _ _
 ·simp only [resolve, ha.evD hg]
  simp [go_sem]
 ·intro f' _; exact trivial
 ·simp [invoke, go_sem, hF]
 refine (callsIn_wide.2 (hit (w.heap.size + 1) (loopB (w.heap.size + 1) (rec .ready none) (w.heap.size :: Ds)) (loopB (w.heap.size + 1) (rec .done (some (.exit id))) (w.heap.size :: Ds)) t0 W1 h0 hi0 hw1 ?_ ?_)).mono ?_
 ·intro t y W ht hy hwW m'
  have hX := (hwW.ok _ (a1 t (loopB (w.heap.size + 1) (rec .ready none) (w.heap.size :: Ds)) (loopB (w.heap.size + 1) (rec .ready none) (w.heap.size :: Ds))).mem).1
  have hl := hX.2.2.1
  have hy1 := run_yield (P := P) (args := #[V y]) hl (by rw [hrec]; simp)
  rw [hrec] at hy1
  refine ⟨fn, _, assign, body, hy1, roundIn_of_wpIn trivial ?_⟩
  have hfr : Fr n ((p, V y) :: l) { tmps := a.tmps.setIfInBounds p (V y), defers := [] } := by
   have h := ha.put p (V y) hp
   exact ⟨h.size, rfl, h.get⟩
  have hA := has (w.heap.size + 1) t y _ ht _ W hfr hwW.un m'
  refine wpIn_mono (Q := NO _) (by simpa [Bs.df, wr, Fence.inRound] using hA) ?_
  intro e a2' w2 hq
  cases e with
  | normal =>
   obtain ⟨_, -, a0, rfl, hf0, hw2⟩ := hq
   have hX2 := (hw2.ok _ (a1 t (loopB (w.heap.size + 1) (rec .ready none) (w.heap.size :: Ds)) (loopB (w.heap.size + 1) (rec .ready none) (w.heap.size :: Ds))).mem).1
   refine ⟨_, run_beginRound hX2.2.2.1 (by rw [hrec]), ?_⟩
   have hw3 := hw2.loop (L' := { rec .ready none with state := .busy }) (a1 t _ _)
   refine wpIn_mono (hbd (w.heap.size + 1) t y _ ht hy a0 _ hf0 hw3 m') ?_
   intro e a3 w4 hq
   cases e with
   | normal =>
    obtain ⟨t', ⟨hR, hφ⟩, a4, rfl, -, hw5⟩ := hq
    have hX5 := (hw5.ok _ (a1 t' (loopB (w.heap.size + 1) { rec .ready none with state := .busy } (w.heap.size :: Ds)) (loopB (w.heap.size + 1) { rec .ready none with state := .busy } (w.heap.size :: Ds))).mem).1
    refine ⟨_, _, run_endRound none hX5.2.2.1, rfl, t', hR, hφ, ?_⟩
    have := hw5.loop (L' := rec .ready none) (a1 t' _ _)
    rw [hrec] at this ⊢
    exact this.un
   | _ => exact hq.elim
  | _ => exact hq.elim
 ·intro t y W ht hy hwW m'
  have hX := (hwW.ok _ (a1 t (loopB (w.heap.size + 1) (rec .ready none) (w.heap.size :: Ds)) (loopB (w.heap.size + 1) (rec .ready none) (w.heap.size :: Ds))).mem).1
  have hl := hX.2.2.1
  have hy1 := run_yield (P := P) (args := #[V y]) hl (by rw [hrec]; simp)
  rw [hrec] at hy1
  refine ⟨fn, _, assign, body, hy1, roundIn_of_wpIn trivial ?_⟩
  have hfr : Fr n ((p, V y) :: l) { tmps := a.tmps.setIfInBounds p (V y), defers := [] } := by
   have h := ha.put p (V y) hp
   exact ⟨h.size, rfl, h.get⟩
  have hA := has (w.heap.size + 1) t y _ ht _ W hfr hwW.un m'
  refine wpIn_mono (Q := NO _) (by simpa [Bs.df, wr, Fence.inRound] using hA) ?_
  intro e a2' w2 hq
  cases e with
  | normal =>
   obtain ⟨_, -, a0, rfl, hf0, hw2⟩ := hq
   have hX2 := (hw2.ok _ (a1 t (loopB (w.heap.size + 1) (rec .ready none) (w.heap.size :: Ds)) (loopB (w.heap.size + 1) (rec .ready none) (w.heap.size :: Ds))).mem).1
   refine ⟨_, run_beginRound hX2.2.2.1 (by rw [hrec]), ?_⟩
   have hw3 := hw2.loop (L' := { rec .ready none with state := .busy }) (a1 t _ _)
   refine wpIn_mono (hbx (w.heap.size + 1) t y _ ht hy a0 _ hf0 hw3 m') ?_
   intro e a3 w4 hq
   cases e with
   | exit i =>
    obtain ⟨rfl, t', hφ, hw5⟩ := hq
    have hX5 := (hw5.ok _ (a1 t' (loopB (w.heap.size + 1) { rec .ready none with state := .busy } (w.heap.size :: Ds)) (loopB (w.heap.size + 1) { rec .ready none with state := .busy } (w.heap.size :: Ds))).mem).1
    refine ⟨_, _, run_endRound (some (.exit i)) hX5.2.2.1, rfl, t', hφ, ?_⟩
    have := hw5.loop (L' := rec .done (some (.exit i))) (a1 t' _ _)
    rw [hrec] at this ⊢
    exact this.un
   | _ => exact hq.elim
  | _ => exact hq.elim
 ·rintro e W2 ⟨⟨u, rfl⟩, t, hfin, hw2⟩
  have hX2 := (hw2.ok _ (a1 t (loopB (w.heap.size + 1) (rec .done (some (.exit id))) (w.heap.size :: Ds)) (loopB (w.heap.size + 1) (rec .done (some (.exit id))) (w.heap.size :: Ds))).mem).1
  refine ⟨some (.exit id), _, (run_endLoop hX2.2.2.1 (by rw [hrec]; simp)).trans (by rw [hrec]), ?_⟩
  have hw3 := hw2.loop (L' := { rec .done (some (.exit id)) with state := .exhausted }) (a1 t _ _)
  have hX3 := (hw3.ok _ (a1 t (loopB (w.heap.size + 1) { rec .done (some (.exit id)) with state := .exhausted } (w.heap.size :: Ds)) (loopB (w.heap.size + 1) { rec .done (some (.exit id)) with state := .exhausted } (w.heap.size :: Ds))).mem).1
  have hw4 := hw3.turn (a1 t _ (defsB (w.heap.size :: Ds))) (fun h => (by cases h)) ⟨hX3.2.1, hX3.2.2.2⟩ (fun b hb => .inr hb)
  have hk := k w.heap.size t hfin a _ ha (by rw [hrec] at hw4; exact hw4.un)
  show (Code.exit id).wpIn _ _ P (NO Q) _ _
  refine wpIn_exit ?_
  show Q (.exit id) _ _
  have e : ({ B.df a with defers := [mark w.heap.size] ++ (B.df a).defers } : Act) = (⟨B.w, B.m, none, (w.heap.size :: Ds).map mark⟩ : Bs).df a := by
   simp [Bs.df, hd]
  rw [e]
  exact hk
/-- Part of a string. -/
theorem pStrTo {o : Oper} {t : TypeId} {x y : Operand} {s : ByteArray} {j : Nat} [u : Und P t .string] (ho : o.op = .slice t x none (some y) none) (hx : evl l x = some (.string s)) (hy : evl l y = some (.int .i64 (j : Nat))) (hj : j ≤ s.size) : RP P n l o (.string (s.extract 0 j)) := rp2 hx hy (fun ρ h1 h2 w => by
 have hu := u.h
 have hr : (Instr.sliceAt t (.string s) none (some (.int .i64 (j : Nat))) none).run P w = .ok (.string (s.extract 0 j)) w := by
  rw [run_sliceAt_string (P := P) (w := w) t _ _ _ _ hu, run_slice_string_h w t s hu .i64 (j : Nat) (by omega) (by omega)]
  simp
 unfold execOp
 simp only [ho, h1, h2, Option.map_some, Option.map_none, Sem.run_bind, hr, Result.andThen_ok, Sem.run_pure])
theorem pStrFrom {o : Oper} {t : TypeId} {x y : Operand} {s : ByteArray} {j : Nat} [u : Und P t .string] (ho : o.op = .slice t x (some y) none none) (hx : evl l x = some (.string s)) (hy : evl l y = some (.int .i64 (j : Nat))) (hj : j ≤ s.size) : RP P n l o (.string (s.extract j s.size)) := rp2 hx hy (fun ρ h1 h2 w => by
 have hu := u.h
 have hr : (Instr.sliceAt t (.string s) (some (.int .i64 (j : Nat))) none none).run P w = .ok (.string (s.extract j s.size)) w := by
  rw [run_sliceAt_string (P := P) (w := w) t _ _ _ _ hu, run_slice_string_l w t s hu .i64 (j : Nat) (by omega) (by omega)]
  simp
 unfold execOp
 simp only [ho, h1, h2, Option.map_some, Option.map_none, Sem.run_bind, hr, Result.andThen_ok, Sem.run_pure])
end
end Go.Proofs.YtmcpnoailbmkkaaGreatDoor
/- Layer 2: lines of a text, integers, stones read. -/
namespace Go.Proofs.YtmcpnoailbmkkaaGreatDoor
open Go Go.RowKit Go.Proofs
attribute [local irreducible] J JQ JL JA JD

open Go.Shelf
/-- The state of a range over lines: how many are gone; what the one who asked has. -/
structure SqT (R : Type) where
 k : Nat
 r : R
theorem rs_le (l : List St) (k : Nat) : (rsS l k).size ≤ (printL l).length := by
 show (printL (l.drop k)).length ≤ _
 have h : printL l = printL (l.take k) ++ printL (l.drop k) := by unfold printL; rw [← List.flatMap_append, List.take_append_drop]
 rw [h, List.length_append]; omega
section
variable {P : Program} {n : Nat} {B : Bs} {Q : Exit → Act → World → Prop} {l : Sl} {H : List It} {ops : Array Oper} {rest : List Oper} {o : Oper}
theorem iYx {T : Type} {φ : T → Prop} {HH : T → List It} {ts : Array TypeId} {x y : Operand} {lp d : Nat} {v : Value} (hY : ∀ W, Wd B H W → ∀ m, YieldAt Fence.wide m P lp #[v] W (fun e W2 => e = .returned (.bool false) ∧ ∃ t', φ t' ∧ Wd B (HH t') W2))
  (k : ∀ t', φ t' → JLi P n B ops Q rest ((d, .bool false) :: l) (HH t')) (ho : o.op = .call { callee := .value x, args := #[y], argTypes := ts } := by rfl) (hx : evl l x = some (.func (.yield lp) #[] #[]) := by rfl) (hy : evl l y = some v := by rfl) (hd : o.dst = some d := by rfl) (hW : WN ops n l o true := by exact wAny) (hn : Nat.ble n d = false := by rfl) :
  JLi P n B ops Q (o :: rest) l H := fun a w ha hw m =>
 wpListIn_step (fun K hK => by
  rw [if_pos (hW.D ha)]
  obtain ⟨fn, tmps, assign, body, h1, h2⟩ := hY w hw (m - 1)
  have he : (execOp (B.df a).eval o).run P w = .ok (.round lp fn tmps assign body) w := by
   unfold execOp; rw [ho]
   simp only [resolve, ha.evD hx, List.map_toArray, List.map_cons, List.map_nil]
   simp [Deferred.ofValue, invoke, ha.evD hy, h1]
  unfold Oper.wpIn
  refine ⟨fun _ _ => trivial, ?_⟩
  rw [Oper.semAt_plain _ _ _ (fun c hc => by rw [ho] at hc; cases hc), he, Oper.uponIn_round]
  refine ⟨fun h => (by cases h), h2.mono ?_⟩
  rintro e W2 ⟨rfl, t', h3, h4⟩
  show K ((B.df a).put o.dst (.bool false)) W2
  rw [hd]
  exact hK _ _ (by rw [Bs.df_put]; exact k t' h3 _ _ (ha.put d _ hn) h4 m))
end
set_option maxRecDepth 100000 in
set_option maxHeartbeats 4000000 in
theorem seq_any {R : Type} (E1 E2 E3 E4 : R → It) (PR : Nat → R → Prop) (FX : R → Prop) (l : List St) (bp bs bn : Nat) (w0 : World) (hpl : (printL l).length ≤ 100000) : ItrB Tryz.prog (T := SqT R) (Y := Nat) 250 #[.pointer (some ⟨bp, 0, none⟩), .pointer (some ⟨bs, 0, none⟩), .pointer (some ⟨bn, 0, none⟩)] ⟨w0, fun _ => False, none, []⟩ (fun _ => True) (fun t X => [cellB bp [.string ⟨#[10]⟩] 9, cellB bs [.string (rsS l t.k)] 9, cellB bn [.int .i64 1] 3, E1 t.r, E2 t.r, E3 t.r, E4 t.r, X]) (fun t y => y = t.k ∧ y < l.length ∧ PR y t.r) (fun t y => y = l.length ∧ t.k = y ∧ PR y t.r) (fun y => .string (if h : y < l.length then lnS2 (l[y]'h) else ⟨#[]⟩)) (fun t t' => t'.k = t.k ∧ PR (t.k + 1) t'.r) (fun t => FX t.r) (fun t => t.k = 0 ∧ PR 0 t.r) := by
 intro lp X X2 t0 W _ hi0 hW hY hX
 refine J_start (B := ⟨w0, fun _ => False, none, []⟩) rfl rfl (vs := [.func (.yield lp) #[] #[], .pointer (some ⟨bp, 0, none⟩), .pointer (some ⟨bs, 0, none⟩), .pointer (some ⟨bn, 0, none⟩)]) (k := 48) (l := [(0, .func (.yield lp) #[] #[]), (1, .pointer (some ⟨bp, 0, none⟩)), (2, .pointer (some ⟨bs, 0, none⟩)), (3, .pointer (some ⟨bn, 0, none⟩))]) Tryz.func250 rfl rfl Tryz.ntmps250 rfl rfl (hW) ?_
 refine s6 ?_
 refine aDecF ?_ (by decide)
 refine s7 ?_
 refine xL (T := Nat × R) (fun q => q.1 ≤ l.length ∧ PR q.1 q.2) (fun q => [(0, .func (.yield lp) #[] #[]), (1, .pointer (some ⟨bp, 0, none⟩)), (2, .pointer (some ⟨bs, 0, none⟩)), (3, .pointer (some ⟨bn, 0, none⟩))]) (fun q => [cellB bp [.string ⟨#[10]⟩] 9, cellB bs [.string (rsS l q.1)] 9, cellB bn [.int .i64 1] 3, E1 q.2, E2 q.2, E3 q.2, E4 q.2, X]) (fun q => l.length - q.1) (0, t0.r) ⟨Nat.zero_le _, hi0.2⟩ ?_ (hH := by (try dsimp only); rw [← hi0.1]; repeat constructor)
 rintro ⟨k, r⟩ ⟨hk, hpr⟩
 dsimp only at hk hpr ⊢
 refine s2 ?_
 rcases Nat.lt_or_ge k l.length with hkl | hkl
 ·have hxe : ∃ x, l[k]'hkl = x := ⟨_, rfl⟩
  obtain ⟨x, hx⟩ := hxe
  have hix := rs_ix hkl hx
  have hsz := rs_size hkl hx
  have hto := rs_to hkl hx
  have hle := rs_le l k
  have hz10 : (⟨#[10]⟩ : ByteArray).size = 1 := rfl
  refine s3 ?_
  refine aCB (fun w hw => (Tryz.strings_Index_one (rsS l k) 10 w).mono (fun _ _ ⟨h1, h2⟩ => ⟨by rw [h1, hix], by rw [h2]; exact Below.refl _ _⟩)) ?_
  refine s8 ?_
  refine aDecF ?_ (by omega)
  refine s6 ?_
  refine kJ [(0, _), (1, _), (2, _), (3, _), (7, _)] ?_
  refine s5 ?_
  refine aP (pStrTo (j := (lineB x).length + 1) rfl rfl (congrArg (fun z => some (Value.int .i64 z)) (by omega)) (by omega)) ?_
  rw [hto]
  refine s5 ?_
  refine kJ [(0, _), (1, _), (2, _), (3, _), (7, _), (8, _)] ?_
  refine J_regI ?_
  refine iV (RP.rv (rp_move rfl rfl)) ?_
  refine iV (RP.rv (rp_move rfl rfl)) ?_
  refine iY (T := SqT R) (φ := fun t' => PR (k + 1) t'.r) (HH := fun t' => [cellB bp [.string ⟨#[10]⟩] 9, cellB bs [.string (rsS l k)] 9, cellB bn [.int .i64 1] 3, E1 t'.r, E2 t'.r, E3 t'.r, E4 t'.r, X]) (v := .string (lnS2 x)) (fun W1 hW1 m' => ?_) (fun t' ht' => ?_)
  ·have h := hY ⟨k, r⟩ k W1 trivial ⟨rfl, hkl, hpr⟩ (hW1.pick (by repeat constructor)) m'
   dsimp only at h
   rw [dif_pos hkl, hx] at h
   exact YieldAt.mono' h (fun e W2 h => ⟨h.1, h.2.imp fun t' h => ⟨h.1.2, by have h3 := h.2.2; (try dsimp only at h3); rw [h.1.1] at h3; exact h3⟩⟩)
  obtain ⟨r', hr'⟩ : ∃ r', r' = t'.r := ⟨_, rfl⟩
  rw [← hr'] at ht' ⊢
  refine iV (RP.rv (pNot rfl rfl)) ?_
  refine iN ?_
  refine s4 ?_
  refine kJ [(0, _), (1, _), (2, _), (3, _), (7, _)] ?_
  refine s6 ?_
  refine aP (pStrFrom (j := (lineB x).length + 1) rfl rfl (congrArg (fun z => some (Value.int .i64 z)) (by omega)) (by omega)) ?_
  refine s3 ?_
  exact xR (k + 1, r') ⟨by dsimp only; omega, ht'⟩ (by dsimp only; omega) (hH := by (try dsimp only); rw [← rs_from hkl hx]; repeat constructor)
 ·obtain rfl : k = l.length := by omega
  have hix : Lib.indexByte (rsS l l.length).data.toList 10 = -1 := by rw [rs_end]; rfl
  refine s3 ?_
  refine aCB (fun w hw => (Tryz.strings_Index_one (rsS l l.length) 10 w).mono (fun _ _ ⟨h1, h2⟩ => ⟨by rw [h1, hix], by rw [h2]; exact Below.refl _ _⟩)) ?_
  refine s8 ?_
  refine aDecT ?_ (by decide)
  refine s9 ?_
  refine kJ [(0, _), (2, _)] ?_
  refine J_regI ?_
  refine iV (RP.rv (rp_move rfl rfl)) ?_
  refine iV vAny ?_
  refine iYx (T := SqT R) (φ := fun t' => FX t'.r) (HH := fun t' => [cellB bp [.string ⟨#[10]⟩] 9, cellB bs [.string (rsS l t'.k)] 9, cellB bn [.int .i64 1] 3, E1 t'.r, E2 t'.r, E3 t'.r, E4 t'.r, X2]) (v := .string (rsS l l.length)) (fun W1 hW1 m' => ?_) (fun t' ht' => ?_)
  ·have h := hX ⟨l.length, r⟩ l.length W1 trivial ⟨rfl, rfl, hpr⟩ (hW1.pick (by repeat constructor)) m'
   dsimp only at h
   rw [dif_neg (Nat.lt_irrefl _)] at h
   rw [rs_end]
   exact h
  refine iN ?_
  refine JR_end rfl ?_
  intro w' hw
  exact ⟨⟨_, rfl⟩, t', ht', hw.pick (by repeat constructor)⟩
end Go.Proofs.YtmcpnoailbmkkaaGreatDoor
/- Layer 2: a line of a printed text is read as its stone. -/
namespace Go.Proofs.YtmcpnoailbmkkaaGreatDoor
open Go Go.RowKit Go.Proofs
attribute [local irreducible] J JQ JL JA JD

open Go.Shelf
set_option maxRecDepth 100000 in
set_option maxHeartbeats 4000000 in
theorem splitSeq_any (s p : ByteArray) (n : Int) (w : World) : Calls Tryz.prog 225 #[.string s, .string p, .int .i64 n] w (Ret w (fun _ : Nat × Nat × Nat => True) (fun t => .func (.func 250) #[] #[.pointer (some ⟨t.1, 0, none⟩), .pointer (some ⟨t.2.1, 0, none⟩), .pointer (some ⟨t.2.2, 0, none⟩)]) (fun t => [cellB t.1 [.string p] 9, cellB t.2.1 [.string s] 9, cellB t.2.2 [.int .i64 n] 3])) := by
 refine J_enter (fun _ => False) (vs := [.string s, .string p, .int .i64 n]) (k := 5) (l := [(0, .string s), (1, .string p), (2, .int .i64 n)]) Tryz.func225 rfl rfl Tryz.ntmps225 rfl rfl (Wd.start _) ?_
 refine s2 ?_
 refine aW (oX [_]) (fun b3 hb3 => ?_)
 refine aW (oX [_]) (fun b4 hb4 => ?_)
 refine aW (oX [_]) (fun b5 hb5 => ?_)
 refine s4 ?_
 refine kJ [(3, _), (4, _), (5, _)] ?_
 refine s6 ?_
 refine JR_one rfl (rr_tmp rfl) ?_
 intro w' hw
 exact ⟨(b4, b3, b5), trivial, rfl, hw.pick (by repeat constructor)⟩
set_option maxRecDepth 100000 in
set_option maxHeartbeats 4000000 in
theorem SplitAfter_any (s p : ByteArray) (w : World) : Calls Tryz.prog 190 #[.string s, .string p] w (Ret w (fun _ : Nat × Nat × Nat => True) (fun t => .func (.func 250) #[] #[.pointer (some ⟨t.1, 0, none⟩), .pointer (some ⟨t.2.1, 0, none⟩), .pointer (some ⟨t.2.2, 0, none⟩)]) (fun t => [cellB t.1 [.string p] 9, cellB t.2.1 [.string s] 9, cellB t.2.2 [.int .i64 (p.size : Nat)] 3])) := by
 refine J_enter (fun _ => False) (vs := [.string s, .string p]) (k := 8) (l := [(0, .string s), (1, .string p)]) Tryz.func190 rfl rfl Tryz.ntmps190 rfl rfl (Wd.start _) ?_
 refine s11 ?_
 refine aW (oR (fun w hw => splitSeq_any s p (p.size : Nat) w)) (fun t9 _ => ?_)
 refine s4 ?_
 refine JR_one rfl (rr_tmp rfl) ?_
 intro w' hw
 exact ⟨t9, trivial, rfl, hw.pick (by repeat constructor)⟩
set_option maxRecDepth 100000 in
theorem pNilI {n : Nat} {l : Sl} {o : Oper} {x : Operand} {ty t : TypeId} (ht : Tryz.prog.underlying t = some (.interface (Tryz.prog.methodsAt t))) (ho : o.op = .binOp .eql t x (.const .nilIface) ty) (hx : evl l x = some .nilIface) : RP Tryz.prog n l o (.bool true) := rp2 hx (y := .const .nilIface) rfl (fun ρ h1 h2 w => by
 have h := run_eql_nil_nil (P := Tryz.prog) w t ht
 unfold execOp
 simp only [ho, h1, h2]
 simp [h, eqGuard])
theorem parse_okB (n : Int) (h0 : -9223372036854775808 ≤ n) (h1 : n ≤ 9223372036854775807) (w : World) : Calls Tryz.prog 255 #[.string (itB n), .int .i64 10, .int .i64 64] w (Back (.tuple #[.int .i64 n, .nilIface]) w) := by
 have hs : (itB n).size ≤ 21 := it_size h0 h1
 refine (Tryz.strconv_ParseInt_10_at64_ok (itB n) (by omega) n (parse_itoa h0 h1) w).mono ?_
 rintro e w' ⟨he, hw⟩
 refine ⟨he, ?_⟩
 rcases hw with rfl | ⟨t, rfl⟩
 ·exact Below.refl _ _
 ·exact Lib.bytesWorld_below w 5 t
theorem trim_okB (n : Int) (w : World) : Calls Tryz.prog 256 #[.string (itB n), .string ⟨#[45]⟩] w (Back (.string ⟨(Lib.trimPrefix (Lib.itoa n) [45]).toArray⟩) w) := (Tryz.strings_TrimPrefix (itB n) ⟨#[45]⟩ w).mono (fun _ _ ⟨h1, h2⟩ => ⟨h1, by rw [h2]; exact Below.refl _ _⟩)
set_option maxRecDepth 100000 in
set_option maxHeartbeats 4000000 in
theorem integer_ok (n : Int) (hn : numOk n) (w : World) (hT : Tab w) : Calls Tryz.prog 229 #[.string (itB n)] w (Back (.tuple #[.int .i64 n, .bool true]) w) := by
 refine J_enter (fun _ => False) (vs := [.string (itB n)]) (k := 25) (l := [(0, .string (itB n))]) Tryz.func229 rfl rfl Tryz.ntmps229 rfl rfl (Wd.start _) ?_
 refine s9 ?_
 refine aCB (fun w hw => parse_okB n hn.1.1 hn.1.2 w) ?_
 refine s8 ?_
 refine kJ [(0, _), (4, _), (5, _)] ?_
 refine s3 ?_
 refine aP (pNilI (by kernel_rfl) rfl rfl) ?_
 refine s2 ?_
 refine aCB (fun w hw => fmt_back n hn.1.1 hn.1.2 w (hT.up hw.bel)) ?_
 refine s2 ?_
 refine aDecT ?_ rfl
 refine s3 ?_
 refine aCB (fun w hw => trim_okB n w) ?_
 refine s2 ?_
 refine aDecT ?_ (by have := hn.2; show ((Lib.trimPrefix (Lib.itoa n) [45]).length : Int) ≤ 18; omega)
 refine s6 ?_
 refine JR_two rfl (rr_tmp rfl) (rr_tmp rfl) ?_
 intro w' hw
 exact ⟨rfl, hw.bel⟩
/-- The block with the greatest length that a search by bytes takes at once. -/
abbrev MxL (w : World) : Prop := ∃ m, w.cell? ⟨5, 0, none⟩ = some (.int .i64 m)
theorem MxL.up {w w' : World} (h : MxL w) (hb : Below w.heap.size w w') : MxL w' := by
 obtain ⟨m, h⟩ := h
 exact ⟨m, (World.cell?_of_block (hb.block _ (cell_spot h).2)).trans h⟩
theorem split_ret (s a b d : ByteArray) (hs : s.size ≤ 2000) (hp : partsB s = [a, b, d]) (w : World) (hm : MxL w) : Calls Tryz.prog 227 #[.string s, .string ⟨#[32]⟩] w (Ret w (fun _ : Nat => True) (fun b => .slice (some ⟨b, 0, none⟩) 3 3) (fun g => [cellB g [.string a, .string b, .string d] 9])) := by
 obtain ⟨m, hm⟩ := hm
 have hc : Lib.countB s ⟨#[32]⟩ = 2 := by
  have := Lib.splitB_all ⟨#[32]⟩ (by decide) 0 _ s rfl
  unfold partsB at hp
  rw [hp] at this; simpa using this.symm
 refine (Tryz.strings_Split s ⟨#[32]⟩ m w (by omega) hm (by decide)).mono ?_
 rintro e w' ⟨rfl, rfl⟩
 unfold partsB at hp
 rw [hp, hc]
 have hn := World.alloc_heap_new w (.cells (List.map Value.string [a, b, d]).toArray 9)
 exact ⟨w.heap.size, trivial, rfl, (Wd.start (bs w)).new ((Below.refl _ _).alloc (Nat.le_refl _) _) hn (fun b hb => by cases hb; exact ⟨Nat.le_refl _, by simp⟩)⟩
theorem ix_let {c : UInt8} {t : Int} (w : World) (h : Lib.indexByte [114, 121] c = t) : Calls Tryz.prog 228 #[.string ⟨#[114, 121]⟩, .int .u8 (c.toNat : Nat)] w (Back (.int .i64 t) w) := (Tryz.strings_IndexByte ⟨#[114, 121]⟩ (c.toNat : Nat) w).mono (fun _ _ ⟨h1, h2⟩ => ⟨by rw [h1, show (((c.toNat : Nat) : Int).toNat).toUInt8 = c from by show UInt8.ofNat _ = c; simp]; rw [show (⟨#[114, 121]⟩ : ByteArray).data.toList = [114, 121] from rfl, h], by rw [h2]; exact Below.refl _ _⟩)
set_option maxRecDepth 100000 in
set_option maxHeartbeats 4000000 in
theorem stone_ok (t : St) (ht : okTx t) (w : World) (hT : Tab w) (hM : MxL w) : Calls Tryz.prog 192 #[.string ⟨(lineB t).toArray⟩] w (Back (.tuple #[Stv t, .bool true]) w) := by
 obtain ⟨xt, xn, xx, xy⟩ := t
 obtain ⟨ht, ⟨hn0, hn1⟩, hx, hy⟩ := ht
 dsimp only at ht hn0 hn1 hx hy
 obtain ⟨dn, hdn⟩ : ∃ d : UInt8, d = UInt8.ofNat (49 + xn.toNat) := ⟨_, rfl⟩
 have hin : Lib.itoa (xn + 1) = [dn] := by rw [itoa_name hn0 hn1, hdn]
 have hdv : dn.toNat = 49 + xn.toNat := by rw [hdn]; simp; omega
 have s1_ := Lib.itoa_length_le xx hx.1.1 hx.1.2
 have s2_ := Lib.itoa_length_le xy hy.1.1 hy.1.2
 have hsz : (⟨(lineB ⟨xt, xn, xx, xy⟩).toArray⟩ : ByteArray).size ≤ 2000 := by show (lineB _).length ≤ 2000; unfold lineB; rw [hin]; simp; omega
 refine J_enter (fun _ => False) (vs := [.string ⟨(lineB ⟨xt, xn, xx, xy⟩).toArray⟩]) (k := 66) (l := [(0, .string ⟨(lineB ⟨xt, xn, xx, xy⟩).toArray⟩)]) Tryz.func192 rfl rfl Tryz.ntmps192 rfl rfl (Wd.start _) ?_
 refine s2 ?_
 refine aW oA (fun b2 hb2 => ?_)
 refine s4 ?_
 obtain rfl | rfl := ht
 ·have hpa : partsB ⟨(lineB ⟨0, xn, xx, xy⟩).toArray⟩ = [⟨#[114, dn]⟩, itB xx, itB xy] := by rw [ln_parts]; show [(⟨(114 :: Lib.itoa (xn + 1)).toArray⟩ : ByteArray), _, _] = _; rw [hin]
  refine s2 ?_
  refine aW (oR (fun w hw => split_ret ⟨(lineB ⟨0, xn, xx, xy⟩).toArray⟩ ⟨#[114, dn]⟩ (itB xx) (itB xy) hsz hpa w (hM.up hw.bel))) (fun b12 _ => ?_)
  refine s5 ?_
  refine kJ [(2, _), (4, _)] ?_
  refine s4 ?_
  refine aDecF ?_ (by decide)
  refine s2 ?_
  refine aP (pIdxI (0) rfl rfl rfl rfl) ?_
  refine aV (vCell rfl rfl (by repeat constructor) rfl) ?_
  refine s2 ?_
  refine aDecF ?_ (fun h => h rfl)
  refine s7 ?_
  refine kJ [(2, _), (4, _)] ?_
  refine xD [0, 1, 2, 3, 5, 6, 7, 8, 9, 10, 4, 11, 12] [2, 7] ?_
  refine s1 ?_
  refine dP rfl (pIdxI (0) rfl rfl rfl rfl) ?_
  refine dL rfl (vCell rfl rfl (by repeat constructor) rfl) ?_
  refine dP rfl (pByte (i := 0) (b := 114) rfl rfl rfl rfl) ?_
  refine s1 ?_
  refine dP rfl (pIdxI (0) rfl rfl rfl rfl) ?_
  refine dL rfl (vCell rfl rfl (by repeat constructor) rfl) ?_
  refine dP rfl (pByte (i := 1) (b := dn) rfl rfl rfl rfl) ?_
  refine dP rfl (pConv8 rfl rfl (by unfold U8; omega)) ?_
  refine s1 ?_
  rw [show ((dn.toNat : Nat) : Int) - 49 = xn by omega]
  refine dCB rfl (fun w hw => ix_let (c := 114) (t := 0) w rfl) ?_
  refine s5 ?_
  refine kJ [(2, _), (4, _), (5, _), (6, _)] ?_
  refine s2 ?_
  refine aP (pIdxI (1) rfl rfl rfl rfl) ?_
  refine aV (vCell rfl rfl (by repeat constructor) rfl) ?_
  refine aCB (fun w hw => integer_ok xx hx w (hT.up hw.bel)) ?_
  refine s8 ?_
  refine kJ [(2, _), (4, _), (5, _), (6, _), (7, _), (8, _)] ?_
  refine s2 ?_
  refine aP (pIdxI (2) rfl rfl rfl rfl) ?_
  refine aV (vCell rfl rfl (by repeat constructor) rfl) ?_
  refine aCB (fun w hw => integer_ok xy hy w (hT.up hw.bel)) ?_
  refine s8 ?_
  refine kJ [(2, _), (5, _), (6, _), (7, _), (8, _), (9, _), (10, _)] ?_
  refine s5 ?_
  refine aP (rp_buildC (fun us => [us.getD 0 undef, us.getD 1 undef]) rfl rfl (fun w => by kernel_rfl)) ?_
  refine aP (rp_buildC (fun us => [us.getD 0 undef, us.getD 1 undef, us.getD 2 undef]) rfl rfl (fun w => by kernel_rfl)) ?_
  refine s7 ?_
  refine aDecT ?_ (by decide)
  refine s3 ?_
  refine aCB (fun w hw => swithin _ _ _ w) ?_
  refine aDecT ?_ (by omega)
  refine s6 ?_
  refine JR_two rfl (rr_agg (cs := [_, _, _, _]) rfl Agg.h (Siz.h (k := 4)) (by repeat constructor) (by rfl)) (rr_tmp rfl) ?_
  intro w' hw
  exact ⟨rfl, hw.bel⟩
 ·have hpa : partsB ⟨(lineB ⟨1, xn, xx, xy⟩).toArray⟩ = [⟨#[121, dn]⟩, itB xx, itB xy] := by rw [ln_parts]; show [(⟨(121 :: Lib.itoa (xn + 1)).toArray⟩ : ByteArray), _, _] = _; rw [hin]
  refine s2 ?_
  refine aW (oR (fun w hw => split_ret ⟨(lineB ⟨1, xn, xx, xy⟩).toArray⟩ ⟨#[121, dn]⟩ (itB xx) (itB xy) hsz hpa w (hM.up hw.bel))) (fun b12 _ => ?_)
  refine s5 ?_
  refine kJ [(2, _), (4, _)] ?_
  refine s4 ?_
  refine aDecF ?_ (by decide)
  refine s2 ?_
  refine aP (pIdxI (0) rfl rfl rfl rfl) ?_
  refine aV (vCell rfl rfl (by repeat constructor) rfl) ?_
  refine s2 ?_
  refine aDecF ?_ (fun h => h rfl)
  refine s7 ?_
  refine kJ [(2, _), (4, _)] ?_
  refine xD [0, 1, 2, 3, 5, 6, 7, 8, 9, 10, 4, 11, 12] [2, 7] ?_
  refine s1 ?_
  refine dP rfl (pIdxI (0) rfl rfl rfl rfl) ?_
  refine dL rfl (vCell rfl rfl (by repeat constructor) rfl) ?_
  refine dP rfl (pByte (i := 0) (b := 121) rfl rfl rfl rfl) ?_
  refine s1 ?_
  refine dP rfl (pIdxI (0) rfl rfl rfl rfl) ?_
  refine dL rfl (vCell rfl rfl (by repeat constructor) rfl) ?_
  refine dP rfl (pByte (i := 1) (b := dn) rfl rfl rfl rfl) ?_
  refine dP rfl (pConv8 rfl rfl (by unfold U8; omega)) ?_
  refine s1 ?_
  rw [show ((dn.toNat : Nat) : Int) - 49 = xn by omega]
  refine dCB rfl (fun w hw => ix_let (c := 121) (t := 1) w rfl) ?_
  refine s5 ?_
  refine kJ [(2, _), (4, _), (5, _), (6, _)] ?_
  refine s2 ?_
  refine aP (pIdxI (1) rfl rfl rfl rfl) ?_
  refine aV (vCell rfl rfl (by repeat constructor) rfl) ?_
  refine aCB (fun w hw => integer_ok xx hx w (hT.up hw.bel)) ?_
  refine s8 ?_
  refine kJ [(2, _), (4, _), (5, _), (6, _), (7, _), (8, _)] ?_
  refine s2 ?_
  refine aP (pIdxI (2) rfl rfl rfl rfl) ?_
  refine aV (vCell rfl rfl (by repeat constructor) rfl) ?_
  refine aCB (fun w hw => integer_ok xy hy w (hT.up hw.bel)) ?_
  refine s8 ?_
  refine kJ [(2, _), (5, _), (6, _), (7, _), (8, _), (9, _), (10, _)] ?_
  refine s5 ?_
  refine aP (rp_buildC (fun us => [us.getD 0 undef, us.getD 1 undef]) rfl rfl (fun w => by kernel_rfl)) ?_
  refine aP (rp_buildC (fun us => [us.getD 0 undef, us.getD 1 undef, us.getD 2 undef]) rfl rfl (fun w => by kernel_rfl)) ?_
  refine s7 ?_
  refine aDecT ?_ (by decide)
  refine s3 ?_
  refine aCB (fun w hw => swithin _ _ _ w) ?_
  refine aDecT ?_ (by omega)
  refine s6 ?_
  refine JR_two rfl (rr_agg (cs := [_, _, _, _]) rfl Agg.h (Siz.h (k := 4)) (by repeat constructor) (by rfl)) (rr_tmp rfl) ?_
  intro w' hw
  exact ⟨rfl, hw.bel⟩
end Go.Proofs.YtmcpnoailbmkkaaGreatDoor
/- Layer 2: a printed text is parsed. -/
namespace Go.Proofs.YtmcpnoailbmkkaaGreatDoor
open Go Go.RowKit Go.Proofs
attribute [local irreducible] J JQ JL JA JD

open Go.Shelf
set_option maxRecDepth 100000 in
set_option maxHeartbeats 4000000 in
theorem Parse_print (l : List St) (hchk : chkB l = true) (w : World) (hT : Tab w) (hM : MxL w) : Calls Tryz.prog 163 #[.string ⟨(printL l).toArray⟩] w (Ret w (fun _ : Option Addr × Nat => True) (fun t => .tuple #[.slice t.1 l.length t.2, .int .i64 0, .int .i64 0]) (fun t => [ownB 43 4 t.1 l.length t.2 (l.flatMap eT)])) := by
 obtain ⟨hl16, hall⟩ := chk_facts hchk
 have hpl0 := print_len hall l.length (Nat.le_refl _)
 rw [List.take_length] at hpl0
 have hpl : (printL l).length ≤ 100000 := by omega
 refine J_startM (B := bs w) rfl rfl (vs := [.string ⟨(printL l).toArray⟩]) (k := 53) (l := [(0, .string ⟨(printL l).toArray⟩)]) Tryz.func163 rfl rfl Tryz.ntmps163 rfl rfl ((Wd.start (bs w))) ?_
 refine s2 ?_
 refine aW oA (fun b2 hb2 => ?_)
 refine aW oA (fun b3 hb3 => ?_)
 refine aW oA (fun b4 hb4 => ?_)
 refine s8 ?_
 refine aDecF ?_ (by show ¬ (((printL l).length : Nat) : Int) > 2000; omega)
 refine s7 ?_
 refine J_defs ?_
 refine J_own0 43 4 ?_
 refine s2 ?_
 refine aW (oR (fun w hw => SplitAfter_any ⟨(printL l).toArray⟩ ⟨#[10]⟩ w)) (fun t14 _ => ?_)
 obtain ⟨bp, bs, bn⟩ := t14
 dsimp only [List.cons_append, List.nil_append]
 refine s3 ?_
 refine kJ [(0, _), (2, _), (3, _), (4, _), (14, _)] ?_
 refine J_rangeB (T := SqT (Nat × Option Addr × Nat)) (Y := Nat) (Ds := []) (p := 15) (id := 0) (fun t => True) (fun t X => [cellB bp [.string ⟨#[10]⟩] 9, cellB bs [.string (rsS l t.k)] 9, cellB bn [.int .i64 1] 3, cellB b2 [.slice t.r.2.1 (l.take t.r.1).length t.r.2.2] 24, cellB b3 [.int .i64 ((printL (l.take t.r.1)).length : Nat)] 3, cellB b4 [.int .i64 0] 31, ownB 43 4 t.r.2.1 (l.take t.r.1).length t.r.2.2 ((l.take t.r.1).flatMap eT), X]) (fun t y => y = t.k ∧ y < l.length ∧ t.r.1 = y) (fun t y => y = l.length ∧ t.k = y ∧ t.r.1 = y) (fun y => .string (if h : y < l.length then lnS2 (l[y]'h) else ⟨#[]⟩)) (fun t t' => t'.k = t.k ∧ t'.r.1 = t.k + 1) (fun t => t.r.1 = l.length) (fun t => t.k = 0 ∧ t.r.1 = 0) (fun y => [(0, .string ⟨(printL l).toArray⟩), (2, .pointer (some ⟨b2, 0, none⟩)), (3, .pointer (some ⟨b3, 0, none⟩)), (4, .pointer (some ⟨b4, 0, none⟩)), (5, .string (if h : y < l.length then lnS2 (l[y]'h) else ⟨#[]⟩))]) (seq_any (fun r : Nat × Option Addr × Nat => cellB b2 [.slice r.2.1 (l.take r.1).length r.2.2] 24) (fun r : Nat × Option Addr × Nat => cellB b3 [.int .i64 ((printL (l.take r.1)).length : Nat)] 3) (fun r : Nat × Option Addr × Nat => cellB b4 [.int .i64 0] 31) (fun r : Nat × Option Addr × Nat => ownB 43 4 r.2.1 (l.take r.1).length r.2.2 ((l.take r.1).flatMap eT)) (fun y r => r.1 = y) (fun r => r.1 = l.length) l bp bs bn w hpl) (⟨0, 0, none, 0⟩) (trivial) (⟨rfl, rfl⟩) ?_ ?_ ?_ ?_ (hH := by (try dsimp only); rw [show rsS l 0 = ⟨(printL l).toArray⟩ from rfl]; repeat constructor)
 ·rintro lp t y X ht
  dsimp only
  refine s3 ?_
  exact xE () trivial
 ·rintro lp ⟨tk, tj, tA, tc⟩ y X ht ⟨rfl, hyl, hyj⟩
  dsimp only at hyl hyj ⊢
  subst hyj
  obtain ⟨x, hx⟩ : ∃ x, l[tj]'hyl = x := ⟨_, rfl⟩
  rw [dif_pos hyl, hx]
  have hox : okSt x := by rw [← hx]; exact hall _ _
  have hlz : (lnS2 x).size = (lineB x).length + 1 := by show (lineB x ++ [10]).length = _; simp
  have htl : (l.take tj).length = tj := by rw [List.length_take]; omega
  have hpt := print_len hall tj (by omega)
  have hps := print_snoc (l := l) (k := tj) hyl
  rw [hx] at hps
  have hln : (lineL x).length = (lineB x).length + 1 := by rw [lineL_eq]; simp
  have htk : l.take (tj + 1) = l.take tj ++ [x] := by rw [List.take_succ_eq_append_getElem hyl, hx]
  have hpt2 := print_len hall (tj + 1) (by omega)
  rw [hps, List.length_append, hln] at hpt2
  refine s6 ?_
  refine aDecF ?_ (fun h => by rw [h] at hlz; cases hlz)
  refine s8 ?_
  refine aCB (fun w hw => (Tryz.strings_CutSuffix (lnS2 x) ⟨#[10]⟩ w (by omega)).mono (fun _ _ ⟨h1, h2⟩ => ⟨by rw [h1, show (⟨#[10]⟩ : ByteArray).data.toList = [10] from rfl, (ln_suf x).1, (ln_suf x).2], by rw [h2]; exact Below.refl _ _⟩)) ?_
  refine s8 ?_
  refine kJ [(2, _), (3, _), (4, _), (5, _), (6, _), (7, _)] ?_
  refine s2 ?_
  refine aCB (fun w hw => stone_ok x (okT_of hox) w (hT.up (hw.un (r' := none) (d' := [])).bel) (hM.up (hw.un (r' := none) (d' := [])).bel)) ?_
  refine s3 ?_
  refine aW oA (fun b8 hb8 => ?_)
  refine s6 ?_
  refine kJ [(2, _), (3, _), (4, _), (5, _), (7, _), (8, _), (9, _)] ?_
  refine s11 ?_
  refine aDecF ?_ (by omega)
  refine s6 ?_
  refine kJ [(2, _), (3, _), (5, _), (8, _)] ?_
  refine xDx [0, 1, 4, 5, 6, 7, 2, 3, 8, 9] [0] [1, 4] [cellB b8 [.int .i64 x.t, .int .i64 x.n, .int .i64 x.x, .int .i64 x.y] 43, cellB b3 [.int .i64 ((printL (l.take tj)).length : Nat)] 3] ?_
  refine s6 ?_
  refine dW rfl (ow_sliceC (vs := [_, _, _, _]) (ty := 43) rfl rfl (by rfl) rfl rfl (fun _ => by kernel_rfl)) (fun b42 hb42 => ?_)
  refine dS rfl (oApp (sl := 24) ET (x)) (fun A43 c43 => ?_)
  refine s1 ?_
  refine dW0 rfl wAnyS ?_ (hm := by exact ⟨by kernel_rfl, .inl (by kernel_rfl)⟩)
  refine s2 ?_
  have e : ((printL (l.take tj)).length : Int) + ((lnS2 x).size : Nat) = ((printL (l.take (tj + 1))).length : Nat) := by rw [hps, List.length_append, hln, hlz]; omega
  exact xE ⟨tj, tj + 1, A43, c43⟩ ⟨⟨rfl, rfl⟩, trivial⟩ (hH := by (try dsimp only); rw [← e, htk]; repeat constructor)
 ·rintro lp ⟨tk, tj, tA, tc⟩ y X ht ⟨rfl, hyl, hyj⟩
  dsimp only at hyl hyj ⊢
  subst hyl hyj
  rw [dif_neg (Nat.lt_irrefl _)]
  refine s6 ?_
  refine aDecT ?_ rfl
  refine s6 ?_
  exact JQ_brk ⟨l.length, l.length, tA, tc⟩ rfl
 ·rintro D ⟨tk, tj, tA, tc⟩ hfin
  dsimp only at hfin ⊢
  subst hfin
  rw [List.take_length]
  refine s6 ?_
  refine aCB (fun w hw => (Check_any l _ w (own_arr (A := tA) (c := tc) (ty := 43) (L := l) ET hw (by repeat constructor) (by omega))).mono (fun _ _ h => by rw [hchk] at h; exact h)) ?_
  refine s7 ?_
  refine kJ [(2, _), (3, _), (4, _)] ?_
  refine s8 ?_
  refine JR_marks3 (fun X => [cellB b2 [.slice tA l.length tc] 24, cellB b3 [.int .i64 0] 3, cellB b4 [.int .i64 0] 31, ownB 43 4 tA l.length tc (l.flatMap eT), X]) rfl (fun _ => (rr_cell rfl Agg.h (by repeat constructor) (by rfl))) (fun _ => (rr_cell rfl Agg.h (by repeat constructor) (by rfl))) (fun _ => (rr_cell rfl Agg.h (by repeat constructor) (by rfl))) ?_
  intro w' hw
  exact ⟨(tA, tc), trivial, rfl, (hw.un (r' := none) (d' := [])).pick (by repeat constructor)⟩
end Go.Proofs.YtmcpnoailbmkkaaGreatDoor
/- Layer 7: stones and names compared; tables. -/
namespace Go.Proofs.YtmcpnoailbmkkaaGreatDoor
open Go Go.RowKit Go.Proofs
attribute [local irreducible] J JQ JL JA JD

theorem foS : Tryz.prog.underlying 43 = some (.struct (Tryz.prog.fieldsOf 43)) := by kernel_rfl
theorem foP : Tryz.prog.underlying 41 = some (.struct (Tryz.prog.fieldsOf 41)) := by kernel_rfl
theorem fnS : (Tryz.prog.fieldsOf 43).toList.map (fun f => (f.name != "_", f.type, f.offset)) = [(true, 3, 0), (true, 3, 1), (true, 41, 2)] := by kernel_rfl
theorem fnP : (Tryz.prog.fieldsOf 41).toList.map (fun f => (f.name != "_", f.type, f.offset)) = [(true, 39, 0), (true, 39, 1)] := by kernel_rfl
/-- Fields' equality, by name, type and place. -/
def eqF (d : Nat) (xs ys : Array Value) : List (Bool × TypeId × Nat) → Sem Bool
 | [] => pure true
 | (n, t, o) :: fs =>
  if n = true then do
   let a ← part t xs o
   let b ← part t ys o
   let r ← Op.equalIn d t a b
   if (!r) = true then pure false else eqF d xs ys fs
  else eqF d xs ys fs
theorem eqF_of (d : Nat) (xs ys : Array Value) (l : List Field) : Op.eqFields d xs ys l = eqF d xs ys (l.map (fun f => (f.name != "_", f.type, f.offset))) := by
 induction l with
 | nil => rfl
 | cons f l ih => simp only [Op.eqFields, List.map_cons, eqF, bne_iff_ne, ih]
theorem ein3 (d : Nat) (a b : Int) (w : World) : (Op.equalIn (d + 1) 3 (.int .i64 a) (.int .i64 b)).run Tryz.prog w = .ok (a == b) w := run_equalIn_int w d 3 .i64 .i64 a b Tryz.underlying3
theorem einF (d : Nat) (a b : Int) (w : World) : (Op.equalIn (d + 1) 39 (.int .i64 a) (.int .i64 b)).run Tryz.prog w = .ok (a == b) w := run_equalIn_int w d 39 .i64 .i64 a b (by kernel_rfl)
theorem pa3 (x y z u : Value) (w : World) : (part 3 #[x, y, z, u] 0).run Tryz.prog w = .ok x w ∧ (part 3 #[x, y, z, u] 1).run Tryz.prog w = .ok y w ∧ (part 41 #[x, y, z, u] 2).run Tryz.prog w = .ok (.agg #[z, u]) w := ⟨by kernel_rfl, by kernel_rfl, by kernel_rfl⟩
theorem paF (x y : Value) (w : World) : (part 39 #[x, y] 0).run Tryz.prog w = .ok x w ∧ (part 39 #[x, y] 1).run Tryz.prog w = .ok y w := ⟨by kernel_rfl, by kernel_rfl⟩
theorem einP (d : Nat) (a b a' b' : Int) (w : World) : (Op.equalIn (d + 2) 41 (.agg #[.int .i64 a, .int .i64 b]) (.agg #[.int .i64 a', .int .i64 b'])).run Tryz.prog w = .ok (a == a' && b == b') w := by
 rw [run_equalIn_struct w (d + 1) 41 _ _ foP (by kernel_rfl), eqF_of, fnP]
 cases h1 : a == a' <;> cases h2 : b == b' <;>
  simp [eqF, Sem.run_bind, (paF _ _ _).1, (paF _ _ _).2, einF, h1, h2, Result.andThen_ok, Sem.run_pure]
theorem einS (d : Nat) (a b : St) (w : World) : (Op.equalIn (d + 3) 43 (Stv a) (Stv b)).run Tryz.prog w = .ok (eqS a b) w := by
 obtain ⟨s1, s2, s3, s4⟩ := a
 obtain ⟨t1, t2, t3, t4⟩ := b
 unfold eqS Stv
 rw [run_equalIn_struct w (d + 2) 43 _ _ foS (by kernel_rfl), eqF_of, fnS]
 cases h1 : s1 == t1 <;> cases h2 : s2 == t2 <;> cases h3 : (s3 == t3 && s4 == t4) <;>
  simp [eqF, Sem.run_bind, (pa3 _ _ _ _ _).1, (pa3 _ _ _ _ _).2.1, (pa3 _ _ _ _ _).2.2, ein3, einP, h1, h2, h3, Result.andThen_ok, Sem.run_pure]
theorem neqS (a b : St) (w : World) : (binOp .neq 43 (Stv a) (Stv b)).run Tryz.prog w = .ok (.bool (!eqS a b)) w := by
 have h := einS 9997 a b w
 unfold Stv at h ⊢
 rw [run_neq_struct, h]
 rfl
theorem foN : Tryz.prog.underlying 159 = some (.struct (Tryz.prog.fieldsOf 159)) := by kernel_rfl
theorem fnN : (Tryz.prog.fieldsOf 159).toList.map (fun f => (f.name != "_", f.type, f.offset)) = [(true, 3, 0), (true, 3, 1)] := by kernel_rfl
theorem pa2 (x y : Value) (w : World) : (part 3 #[x, y] 0).run Tryz.prog w = .ok x w ∧ (part 3 #[x, y] 1).run Tryz.prog w = .ok y w := ⟨by kernel_rfl, by kernel_rfl⟩
theorem neqN (a b a' b' : Int) (w : World) : (binOp .neq 159 (Sp a b) (Sp a' b')).run Tryz.prog w = .ok (.bool (!eqK a b a' b')) w := by
 unfold Sp eqK
 rw [run_neq_struct]
 have h : (Op.equalIn 10000 159 (.agg #[.int .i64 a, .int .i64 b]) (.agg #[.int .i64 a', .int .i64 b'])).run Tryz.prog w = .ok (a == a' && b == b') w := by
  rw [run_equalIn_struct w 9999 159 _ _ foN (by kernel_rfl), eqF_of, fnN]
  cases h1 : a == a' <;> cases h2 : b == b' <;>
   simp [eqF, Sem.run_bind, (pa2 _ _ _).1, (pa2 _ _ _).2, ein3, h1, h2, Result.andThen_ok, Sem.run_pure]
 rw [h]
 rfl
section
variable {n : Nat} {l : Sl} {o : Oper} {x y : Operand} {ty : TypeId}
theorem pNeqT (a b : St) (ho : o.op = .binOp .neq 43 x y ty) (hx : evl l x = some (Stv a)) (hy : evl l y = some (Stv b)) : RP Tryz.prog n l o (.bool (!eqS a b)) := rp2 hx hy (fun ρ h1 h2 w => by
 unfold execOp
 have h := neqS a b w
 have hg : Tryz.prog.eqGuardType Tryz.prog.depth 43 = false := by kernel_rfl
 simp only [ho, h1, h2]
 simp [eqGuard, Sem.run_bind, hg, h])
theorem pNeqN (a b a' b' : Int) (ho : o.op = .binOp .neq 159 x y ty) (hx : evl l x = some (Sp a b)) (hy : evl l y = some (Sp a' b')) : RP Tryz.prog n l o (.bool (!eqK a b a' b')) := rp2 hx hy (fun ρ h1 h2 w => by
 unfold execOp
 have h := neqN a b a' b' w
 have hg : Tryz.prog.eqGuardType Tryz.prog.depth 159 = false := by kernel_rfl
 simp only [ho, h1, h2]
 simp [eqGuard, Sem.run_bind, hg, h])
end
instance : DecidableEq St := fun a b => if h : eqS a b = true then isTrue ((eqS_iff a b).1 h) else isFalse (fun e => h ((eqS_iff a b).2 e))
/-- Stones as elements of a map. -/
def dT (s : St) : DataW Unit := .agg [.lit (.int .i64 s.t), .lit (.int .i64 s.n), .lit (.int .i64 s.x), .lit (.int .i64 s.y)]
theorem LSt : ElL Tryz.prog 43 (fun s : St => Stv s) dT ⟨0, 0, 0, 0⟩ (fun _ => True) where
 zero := Zer.h
 okz := trivial
 rd := fun _ _ => rfl
 inv := fun _ x _ h => rdE_agg (l := eT x) rfl plain_agg h
def tblF (l : List St) (p : Int × Int) : Option St := lookT l p.1 p.2
theorem tbl_s {l : List St} {k : Nat} {x : St} (hk : k < l.length) (hx : l[k]'hk = x) : tblF (l.take (k + 1)) = upd (tblF (l.take k)) (x.t, x.n) x := by
 funext p
 obtain ⟨a, b⟩ := p
 unfold tblF upd
 rw [List.take_succ_eq_append_getElem hk, hx, lookT_snoc]
 dsimp only
 by_cases e : eqK x.t x.n a b = true
 ·rw [if_pos e]
  obtain ⟨rfl, rfl⟩ := (eqK_iff _ _ _ _).1 e
  rw [if_pos rfl]
 ·rw [if_neg e, if_neg (fun h => e ((eqK_iff _ _ _ _).2 (by injection h with h1 h2; exact ⟨h1.symm, h2.symm⟩)))]
set_option maxRecDepth 100000 in
set_option maxHeartbeats 4000000 in
theorem of_any (s : St) (w : World) : Calls Tryz.prog 72 #[Stv s] w (Back (Sp s.t s.n) w) := by
 obtain ⟨xt, xn, xx, xy⟩ := s
 refine J_enter (fun _ => False) (vs := [.agg #[.int .i64 xt, .int .i64 xn, .int .i64 xx, .int .i64 xy]]) (k := 7) (l := [(0, .agg #[.int .i64 xt, .int .i64 xn, .int .i64 xx, .int .i64 xy])]) Tryz.func72 rfl rfl Tryz.ntmps72 rfl rfl (Wd.start _) ?_
 refine s2 ?_
 refine aW (oX [_, _, _, _]) (fun b1 hb1 => ?_)
 refine aW oA (fun b2 hb2 => ?_)
 refine s8 ?_
 refine aP (rp_buildC (fun us => [us.getD 0 undef, us.getD 1 undef]) rfl rfl (fun w => by kernel_rfl)) ?_
 refine s4 ?_
 refine JR_one rfl (rr_agg (cs := [_, _]) rfl Agg.h (Siz.h (k := 2)) (by repeat constructor) (by rfl)) ?_
 intro w' hw
 exact ⟨rfl, hw.bel⟩
set_option maxRecDepth 100000 in
set_option maxHeartbeats 4000000 in
theorem table_any (l : List St) (v : Value) (w : World) (hrow : Arr 4 eT w v l) (hok : ∀ s ∈ l, W64 s.t ∧ W64 s.n) (hl9 : l.length ≤ 1000) : Calls Tryz.prog 71 #[v] w (Ret w (fun _ : Nat => True) (fun b => .map (some b)) (fun b => [mapK Tryz.prog 159 43 kN okN2 dT b l.length (tblF l)])) := by
 have hrow0 := hrow
 obtain ⟨A, cap, rfl, -, ⟨hl, -⟩, hA⟩ := hrow
 refine J_enter (fun _ => False) (vs := [.slice A l.length cap]) (k := 18) (l := [(0, .slice A l.length cap)]) Tryz.func71 rfl rfl Tryz.ntmps71 rfl rfl (Wd.start _) ?_
 refine s7 ?_
 refine aW (ow_makeK (kt := 159) (e := 43) (kv := kN) (ok := okN2) (ed := dT) rfl rfl rfl (fun _ => by kernel_rfl)) (fun b6 hb6 => ?_)
 refine s12 ?_
 refine xL (T := Nat) (fun k => k ≤ l.length) (fun k => [(3, .map (some b6)), (7, .slice A l.length cap), (8, .int .i64 (l.length : Nat)), (9, .int .i64 (k : Nat))]) (fun k => [mapK Tryz.prog 159 43 kN okN2 dT b6 k (tblF (l.take k))]) (fun k => l.length - k) 0 (Nat.zero_le _) ?_ (hH := by (try dsimp only); rw [show tblF (l.take 0) = (fun _ => none) from rfl]; repeat constructor)
 rintro k hk
 refine s3 ?_
 refine JL_dec (fun h10 => ?_) (fun h10 => ?_)
 ·refine s9 ?_
  have hltx : k < l.length := by omega
  obtain ⟨bx, qx, rfl, hh⟩ := hA (by intro e; subst e; simp at hltx)
  obtain ⟨⟨xt, xn, xx, xy⟩, hx⟩ : ∃ y, l[k]'hltx = y := ⟨_, rfl⟩
  have hmx : (⟨xt, xn, xx, xy⟩ : St) ∈ l := by rw [← hx]; exact List.getElem_mem _
  refine s2 ?_
  refine aV (vHoldA (cs := [.int .i64 xt, .int .i64 xn, .int .i64 xx, .int .i64 xy]) ET rfl rfl (fun h => h) hh hltx (by rw [hx]; rfl)) ?_
  refine aW oA (fun b5 hb5 => ?_)
  refine s3 ?_
  refine xD [0, 1, 3, 2, 4] [1, 3] ?_
  refine s3 ?_
  refine dCB rfl (fun w hw => of_any (⟨xt, xn, xx, xy⟩ : St) w) ?_
  refine dW0 rfl (ow_putK KNR LSt (xt, xn) (⟨xt, xn, xx, xy⟩ : St) Und.h rfl rfl rfl rfl rfl rfl rfl (by repeat constructor) (hok _ hmx) trivial (by omega) (Nat.le_refl _)) ?_
  refine s3 ?_
  refine kJ [(3, _), (7, _), (8, _), (9, _)] ?_
  refine s4 ?_
  have hs := tbl_s hltx hx
  dsimp only at hs
  exact xR (k + 1) (by omega) (by omega) (hl := ⟨rfl, rfl, rfl, (congrArg some (by go_num)), trivial⟩) (hH := by (try dsimp only); rw [hs]; repeat constructor)
 ·refine s10 ?_
  obtain rfl : k = l.length := by omega
  rw [List.take_length]
  refine kJ [(3, _)] ?_
  refine s6 ?_
  refine JR_one rfl (rr_tmp rfl) ?_
  intro w' hw
  exact ⟨b6, trivial, rfl, hw.pick (by repeat constructor)⟩
set_option maxRecDepth 100000 in
set_option maxHeartbeats 4000000 in
theorem EqualT (l m : List St) (v u : Value) (w : World) (hrow : Arr 4 eT w v l) (hrow2 : Arr 4 eT w u m) : Calls Tryz.prog 73 #[v, u] w (Back (.bool (decide (l = m))) w) := by
 obtain ⟨A, cap, rfl, -, ⟨hl, -⟩, hA⟩ := hrow
 obtain ⟨A2, cap2, rfl, -, ⟨hl2, -⟩, hA2⟩ := hrow2
 refine J_enter (fun _ => False) (vs := [.slice A l.length cap, .slice A2 m.length cap2]) (k := 24) (l := [(0, .slice A l.length cap), (1, .slice A2 m.length cap2)]) Tryz.func73 rfl rfl Tryz.ntmps73 rfl rfl (Wd.start _) ?_
 refine s13 ?_
 refine JL_dec (fun h10 => ?_) (fun h10 => ?_)
 ·refine s4 ?_
  refine kJ [] ?_
  refine s6 ?_
  refine JR_one rfl (rr_tmp rfl) ?_
  intro w' hw
  exact ⟨by rw [decide_eq_false (fun h => by rw [h] at h10; exact h10 rfl)], hw.bel⟩
 ·refine s7 ?_
  refine kJ [(0, _), (1, _)] ?_
  refine s7 ?_
  refine xL (T := Nat) (fun k => k ≤ l.length ∧ ∀ j (hj : j < l.length) (hj2 : j < m.length), j < k → l[j]'hj = m[j]'hj2) (fun k => [(0, .slice A l.length cap), (1, .slice A2 m.length cap2), (12, .int .i64 (l.length : Nat)), (13, .int .i64 (k : Nat))]) (fun k => []) (fun k => l.length - k) 0 ⟨Nat.zero_le _, fun j _ _ h => absurd h (Nat.not_lt_zero _)⟩ ?_
  rintro k ⟨hk, hall⟩
  refine s3 ?_
  refine JL_dec (fun h14 => ?_) (fun h14 => ?_)
  ·refine s9 ?_
   have hltx : k < l.length := by omega
   obtain ⟨bx, qx, rfl, hh⟩ := hA (by intro e; subst e; simp at hltx)
   obtain ⟨⟨xt, xn, xx, xy⟩, hx⟩ : ∃ y, l[k]'hltx = y := ⟨_, rfl⟩
   have hmx : (⟨xt, xn, xx, xy⟩ : St) ∈ l := by rw [← hx]; exact List.getElem_mem _
   have hlty : k < m.length := by omega
   obtain ⟨bky, qy, rfl, hh2⟩ := hA2 (by intro e; subst e; simp at hlty)
   obtain ⟨⟨yt, yn, yx, yy⟩, hy⟩ : ∃ y, m[k]'hlty = y := ⟨_, rfl⟩
   have hmy : (⟨yt, yn, yx, yy⟩ : St) ∈ m := by rw [← hy]; exact List.getElem_mem _
   refine s6 ?_
   refine xD [0, 1, 2, 3, 4, 5, 6, 7, 8] [3, 7] ?_
   refine s3 ?_
   refine dL rfl (vHoldA (cs := [.int .i64 xt, .int .i64 xn, .int .i64 xx, .int .i64 xy]) ET rfl rfl (fun h => h) hh hltx (by rw [hx]; rfl)) ?_
   refine s3 ?_
   refine dL rfl (vHoldA (cs := [.int .i64 yt, .int .i64 yn, .int .i64 yx, .int .i64 yy]) ET rfl rfl (fun h => h) hh2 hlty (by rw [hy]; rfl)) ?_
   refine dP rfl (pNeqT (⟨xt, xn, xx, xy⟩ : St) (⟨yt, yn, yx, yy⟩ : St) rfl rfl rfl) ?_
   refine dBool (fun h24 => ?_) (fun h24 => ?_)
   ·refine dO [] ?_
    refine s4 ?_
    refine kJ [] ?_
    refine s10 ?_
    refine JR_one rfl (rr_tmp rfl) ?_
    intro w' hw
    exact ⟨by rw [decide_eq_false (fun h => by subst h; rw [hx] at hy; cases hy; rw [(eqS_iff _ _).2 rfl] at h24; cases h24)], hw.bel⟩
   ·refine dO [] ?_
    refine s6 ?_
    refine kJ [(0, _), (1, _), (12, _), (13, _)] ?_
    refine s4 ?_
    have hn : ∀ j (hj : j < l.length) (hj2 : j < m.length), j < k + 1 → l[j]'hj = m[j]'hj2 := fun j hj hj2 hjk => by
     rcases Nat.lt_or_ge j k with h | h
     ·exact hall j hj hj2 h
     ·obtain rfl : j = k := by omega
      rw [hx, hy]; exact (eqS_iff _ _).1 (by cases h0 : eqS (⟨xt, xn, xx, xy⟩ : St) (⟨yt, yn, yx, yy⟩ : St) with | true => rfl | false => rw [h0] at h24; cases h24)
    exact xR (k + 1) ⟨by omega, hn⟩ (by omega) (hl := ⟨rfl, rfl, rfl, (congrArg some (by go_num)), trivial⟩)
  ·refine s10 ?_
   refine kJ [] ?_
   refine s5 ?_
   refine JR_one rfl (rr_tmp rfl) ?_
   intro w' hw
   obtain rfl : k = l.length := by omega
   exact ⟨by rw [decide_eq_true (List.ext_getElem (by omega) (fun j h1 h2 => hall j h1 h2 h1))], hw.bel⟩
end Go.Proofs.YtmcpnoailbmkkaaGreatDoor
/- Layer 7: Clone; Sorted, without (document). -/
namespace Go.Proofs.YtmcpnoailbmkkaaGreatDoor
open Go Go.RowKit Go.Proofs
attribute [local irreducible] J JQ JL JA JD

set_option maxRecDepth 100000 in
set_option maxHeartbeats 4000000 in
theorem CloneT (l : List St) (v : Value) (w : World) (hrow : Arr 4 eT w v l) (hl9 : l.length ≤ 1000) : Calls Tryz.prog 81 #[v] w (RetS 43 4 eT l w) := by
 have hrow0 := hrow
 obtain ⟨A, cap, rfl, -, ⟨hl, -⟩, hA⟩ := hrow
 refine J_enter (fun _ => False) (vs := [.slice A l.length cap]) (k := 7) (l := [(0, .slice A l.length cap)]) Tryz.func81 rfl rfl Tryz.ntmps81 rfl rfl (Wd.start _) ?_
 refine s9 ?_
 refine aP (pSlNil rfl rfl) ?_
 refine JL_bool (fun h4 => ?_) (fun h4 => ?_)
 ·refine s4 ?_
  refine J_own0 43 4 ?_
  refine kJ [] ?_
  refine s6 ?_
  refine JR_one rfl (rr_tmp rfl) ?_
  intro w' hw
  obtain rfl : l = [] := by
   cases l with
   | nil => rfl
   | cons y l =>
    obtain ⟨b, o, h, -⟩ := hA (by intro h; cases h)
    rw [h] at h4; cases h4
  exact ⟨none, 0, rfl, hw.pick (by repeat constructor)⟩
 ·refine s7 ?_
  refine aW (ow_slice0 (k := 4) (ty := 43) rfl rfl rfl (fun _ => by kernel_rfl)) (fun b5 hb5 => ?_)
  refine s1 ?_
  refine aS (oAppX (sl := 24) ET ([] : List St) l (fun w hw => hrow0.up ET hw.bel) rfl (Nat.le_refl _) (hl := by rw [List.length_nil]; omega)) (fun A7 c7 => ?_)
  rw [List.nil_append]
  refine s4 ?_
  refine JR_one rfl (rr_tmp rfl) ?_
  intro w' hw
  exact ⟨A7, c7, rfl, hw.pick (by repeat constructor)⟩
theorem fidx_in {α : Type} {p : α → Bool} {l : List α} (h : 0 ≤ fidx p l) : ∃ (k : Nat) (hk : k < l.length), fidx p l = k ∧ p (l[k]'hk) = true ∧ ∀ j (hj : j < k), p (l[j]'(by omega)) = false := by
 unfold fidx at h ⊢
 split at h
 ·rename_i hk
  rw [if_pos hk]
  exact ⟨l.findIdx p, hk, rfl, List.findIdx_getElem, fun j hj => by simpa using List.not_of_lt_findIdx hj⟩
 ·omega
theorem fidx_out {α : Type} {p : α → Bool} {l : List α} (h : ¬ 0 ≤ fidx p l) : ∀ x ∈ l, p x = false := fun x hx => by
 rw [← Bool.not_eq_true]
 intro hp
 have hlt : l.findIdx p < l.length := List.findIdx_lt_length.2 ⟨x, hx, hp⟩
 unfold fidx at h
 rw [if_pos hlt] at h
 omega
end Go.Proofs.YtmcpnoailbmkkaaGreatDoor
/- Layer 7: without (document). -/
namespace Go.Proofs.YtmcpnoailbmkkaaGreatDoor
open Go Go.RowKit Go.Proofs
attribute [local irreducible] J JQ JL JA JD

end Go.Proofs.YtmcpnoailbmkkaaGreatDoor
/- Layers 2, 7: positions, outcomes, rulings compared (document). -/
namespace Go.Proofs.YtmcpnoailbmkkaaGreatDoor
open Go Go.RowKit Go.Proofs
attribute [local irreducible] J JQ JL JA JD

/-- An outcome: its stones are a slice. -/
structure Oc where
 d : Dv St
 g : Bool
def eO (p : Oc) : List Value := [p.d.v, .bool p.g]
theorem EO : Enc 2 eO := ⟨fun _ => rfl, fun x v h => by simp [eO, Dv.v] at h; rcases h with rfl | rfl <;> rfl⟩
abbrev Ocv (p : Oc) : Value := .agg #[p.d.v, .bool p.g]
def OcW (w : World) (p : Oc) : Prop := Arr 4 eT w p.d.v p.d.l
theorem OcW.up {w w' : World} {p : Oc} (h : OcW w p) (hb : Below w.heap.size w w') : OcW w' p := Arr.up ET h hb
/-- What an outcome says. -/
def oP (p : Oc) : List St × Bool := (p.d.l, p.g)
end Go.Proofs.YtmcpnoailbmkkaaGreatDoor
/- Layer 7: rulings compared (document). -/
namespace Go.Proofs.YtmcpnoailbmkkaaGreatDoor
open Go Go.RowKit Go.Proofs
attribute [local irreducible] J JQ JL JA JD

end Go.Proofs.YtmcpnoailbmkkaaGreatDoor
/- Layer 7: Good (document); is an end one? -/
namespace Go.Proofs.YtmcpnoailbmkkaaGreatDoor
open Go Go.RowKit Go.Proofs
attribute [local irreducible] J JQ JL JA JD

set_option maxRecDepth 100000 in
theorem pNeqP {n : Nat} {l : Sl} {o : Oper} {x : Operand} {ty t : TypeId} {p : Option Addr} (ht : Tryz.prog.underlying t = some (.pointer (Tryz.prog.pointee t))) (ho : o.op = .binOp .neq t x (.const (.pointer none)) ty) (hx : evl l x = some (.pointer p)) : RP Tryz.prog n l o (.bool (!p.isNone)) := rp2 hx (y := .const (.pointer none)) rfl (fun ρ h1 h2 w => by
 have h := run_neq_pointer_nil (P := Tryz.prog) w t p ht
 unfold execOp
 simp only [ho, h1, h2]
 simp [h, eqGuard])
/-- May there be such an end? The error. -/
def goodR (c : Cd) (first power : Int) : Int := if ccB c = true ∧ (0 ≤ first ∧ first ≤ 1) then (if (-1 ≤ power ∧ power ≤ 1) ∧ (c.p = true ∨ power = 0) then 0 else 4) else 2
end Go.Proofs.YtmcpnoailbmkkaaGreatDoor
/- Layer 7: an end, read. -/
namespace Go.Proofs.YtmcpnoailbmkkaaGreatDoor
open Go Go.RowKit Go.Proofs
attribute [local irreducible] J JQ JL JA JD

set_option maxRecDepth 100000 in
set_option maxHeartbeats 4000000 in
theorem is_any (b : Nat) (kf kt ks ke : Int) (kp mk : Bool) (fr : Int) (sA : Option Addr) (sn sk : Nat) (tn : Int) (pd : Option Addr) (w : World) (h : (cellB b [.int .i64 kf, .int .i64 kt, .int .i64 ks, .int .i64 ke, .bool kp, .bool mk, .int .i64 fr, .slice sA sn sk, .int .i64 tn, .pointer pd] 217).holds w) : Calls Tryz.prog 107 #[.pointer (some ⟨b, 0, none⟩)] w (Back (.bool mk) w) := by
 refine J_enter (fun _ => False) (vs := [.pointer (some ⟨b, 0, none⟩)]) (k := 10) (l := [(0, .pointer (some ⟨b, 0, none⟩))]) Tryz.func107 rfl rfl Tryz.ntmps107 rfl rfl (Wd.start _) ?_
 refine s8 ?_
 refine aP (pNeqP (by kernel_rfl) rfl rfl) ?_
 refine aBoolT ?_ rfl
 refine s4 ?_
 refine aV (vOld rfl rfl (fun h => h) (cellB_get h rfl)) ?_
 refine s5 ?_
 refine JR_one rfl (rr_tmp rfl) ?_
 intro w' hw
 exact ⟨rfl, hw.bel⟩
set_option maxRecDepth 100000 in
set_option maxHeartbeats 4000000 in
theorem over_any (b : Nat) (kf kt ks ke : Int) (kp mk : Bool) (fr : Int) (sA : Option Addr) (sn sk : Nat) (tn : Int) (pd : Option Addr) (w : World) (h : (cellB b [.int .i64 kf, .int .i64 kt, .int .i64 ks, .int .i64 ke, .bool kp, .bool mk, .int .i64 fr, .slice sA sn sk, .int .i64 tn, .pointer pd] 217).holds w) (he : 0 ≤ ke ∧ ke ≤ 100) : Calls Tryz.prog 108 #[.pointer (some ⟨b, 0, none⟩)] w (Back (.bool (decide (tn = 2 * ke))) w) := by
 refine J_enter (fun _ => False) (vs := [.pointer (some ⟨b, 0, none⟩)]) (k := 13) (l := [(0, .pointer (some ⟨b, 0, none⟩))]) Tryz.func108 rfl rfl Tryz.ntmps108 rfl rfl (Wd.start _) ?_
 refine s6 ?_
 refine xD [0, 1, 2, 3, 4, 5, 6, 7, 8, 9, 10, 11] [3, 8] ?_
 refine s3 ?_
 refine dL rfl (vOld rfl rfl (fun h => h) (cellB_get h rfl)) ?_
 refine s4 ?_
 refine dL rfl (vOld rfl rfl (fun h => h) (cellB_get h rfl)) ?_
 refine s6 ?_
 refine JR_one rfl (rr_tmp rfl) ?_
 intro w' hw
 exact ⟨rfl, hw.bel⟩
theorem It.up_cell {b : Nat} {vs : List Value} {ty : TypeId} {w w' : World} (h : (cellB b vs ty).holds w) (hb : Below w.heap.size w w') : (cellB b vs ty).holds w' := by
 have h' : w.heap[b]? = some (.cells vs.toArray ty (0, 0)) := h
 have hlt : b < w.heap.size := (Array.getElem?_eq_some_iff.1 h').1
 show w'.heap[b]? = _
 rw [hb.block b hlt]; exact h'
end Go.Proofs.YtmcpnoailbmkkaaGreatDoor
/- Layer 7: Position. -/
namespace Go.Proofs.YtmcpnoailbmkkaaGreatDoor
open Go Go.RowKit Go.Proofs
attribute [local irreducible] J JQ JL JA JD

set_option maxRecDepth 100000 in
set_option maxHeartbeats 4000000 in
theorem Position_any (b : Nat) (kf kt ks ke : Int) (kp : Bool) (fr : Int) (sA : Option Addr) (l : List St) (sk : Nat) (tn : Int) (pd : Option Addr) (w : World) (h : (cellB b [.int .i64 kf, .int .i64 kt, .int .i64 ks, .int .i64 ke, .bool kp, .bool true, .int .i64 fr, .slice sA l.length sk, .int .i64 tn, .pointer pd] 217).holds w) (hrow : Arr 4 eT w (.slice sA l.length sk) l) (hl9 : l.length ≤ 1000) : Calls Tryz.prog 58 #[.pointer (some ⟨b, 0, none⟩)] w (RetS 43 4 eT l w) := by
 refine J_enter (fun _ => False) (vs := [.pointer (some ⟨b, 0, none⟩)]) (k := 10) (l := [(0, .pointer (some ⟨b, 0, none⟩))]) Tryz.func58 rfl rfl Tryz.ntmps58 rfl rfl (Wd.start _) ?_
 refine s9 ?_
 refine aCB (fun w hw => is_any b kf kt ks ke kp true fr sA l.length sk tn pd w (It.up_cell h hw.bel)) ?_
 refine aBoolT ?_ rfl
 refine s7 ?_
 refine kJ [(0, _)] ?_
 refine s4 ?_
 refine aV (vOld rfl rfl (fun h => h) (cellB_get h rfl)) ?_
 refine aS (oS (fun w hw => CloneT l _ w (hrow.up ET hw.bel) hl9)) (fun A10 c10 => ?_)
 refine s4 ?_
 refine JR_one rfl (rr_tmp rfl) ?_
 intro w' hw
 exact ⟨A10, c10, rfl, hw.pick (by repeat constructor)⟩
end Go.Proofs.YtmcpnoailbmkkaaGreatDoor
/-
  DERIVED: THE SHELF's CONTRACTS AT THIS DUMP, IN PLAIN WORDS (tools/lay-plain.mjs out of 'YtmcpnoailbmkkaaGreatDoorSh.lean', which tools/lay-shelf.mjs wrote): THE SAME DECLARATIONS UNDER THE SAME NAMES: 'import', 'namespace', 'open', 'def', 'theorem' AND NOTHING ELSE: no command of the shelf's: FOR A HAND-IN. Each laying: the table of numbers ('.._ren') and one theorem, a field a fact of the dump's own or the kernel's comparison; each contract: ONE APPLICATION.
-/
namespace Go.Proofs
open Go.Shelf
def Tryz.sortSt_ren : Go.Shelf.Ren := ⟨fun | 6 => 119 | 15 => 173 | 14 => 172 | 28 => 208 | 29 => 186 | 20 => 200 | 21 => 201 | 22 => 202 | 23 => 203 | 24 => 204 | 25 => 205 | 26 => 206 | 27 => 207 | 46 => 238 | 47 => 239 | 48 => 240 | 49 => 241 | 50 => 242 | 57 => 278 | n => n, fun | 22 => 24 | 24 => 43 | 25 => 231 | 3 => 3 | 39 => 275 | 0 => 0 | 53 => 287 | 55 => 255 | 4 => 4 | 46 => 306 | 45 => 305 | 50 => 203 | 5 => 5 | 9 => 9 | 66 => 337 | 70 => 341 | 76 => 371 | 77 => 182 | n => n, fun | n => n⟩
theorem Tryz.sortSt : Go.Proofs.SlLaysF0.n6 Tryz.prog Tryz.sortSt_ren := {
  mixed := by kernel_rfl
  f6 := ⟨Tryz.f119.name, by decide, Tryz.func119.trans (congrArg some (by kernel_rfl))⟩
  f14 := ⟨Tryz.f172.name, by decide, Tryz.func172.trans (congrArg some (by kernel_rfl))⟩
  f15 := Tryz.func173.trans (congrArg some (by kernel_rfl))
  f20 := ⟨Tryz.f200.name, by decide, Tryz.func200.trans (congrArg some (by kernel_rfl))⟩
  f21 := ⟨Tryz.f201.name, by decide, Tryz.func201.trans (congrArg some (by kernel_rfl))⟩
  f22 := ⟨Tryz.f202.name, by decide, Tryz.func202.trans (congrArg some (by kernel_rfl))⟩
  f23 := ⟨Tryz.f203.name, by decide, Tryz.func203.trans (congrArg some (by kernel_rfl))⟩
  f24 := ⟨Tryz.f204.name, by decide, Tryz.func204.trans (congrArg some (by kernel_rfl))⟩
  f25 := ⟨Tryz.f205.name, by decide, Tryz.func205.trans (congrArg some (by kernel_rfl))⟩
  f26 := ⟨Tryz.f206.name, by decide, Tryz.func206.trans (congrArg some (by kernel_rfl))⟩
  f27 := ⟨Tryz.f207.name, by decide, Tryz.func207.trans (congrArg some (by kernel_rfl))⟩
  f28 := Tryz.func208.trans (congrArg some (by kernel_rfl))
  f29 := Tryz.func186.trans (congrArg some (by kernel_rfl))
  f46 := ⟨Tryz.f238.name, by decide, Tryz.func238.trans (congrArg some (by kernel_rfl))⟩
  f47 := Tryz.func239.trans (congrArg some (by kernel_rfl))
  f48 := Tryz.func240.trans (congrArg some (by kernel_rfl))
  f49 := ⟨Tryz.f241.name, by decide, Tryz.func241.trans (congrArg some (by kernel_rfl))⟩
  f50 := ⟨Tryz.f242.name, by decide, Tryz.func242.trans (congrArg some (by kernel_rfl))⟩
  f57 := ⟨Tryz.f278.name, by decide, Tryz.func278.trans (congrArg some (by kernel_rfl))⟩
  t0 := Tryz.underlying0
  a0 := Tryz.isAgg0
  z0 := Tryz.sizeOf0
  v0 := Tryz.zeroValue0
  t3 := Tryz.underlying3
  a3 := Tryz.isAgg3
  z3 := Tryz.sizeOf3
  v3 := Tryz.zeroValue3
  t4 := Tryz.underlying4
  a4 := Tryz.isAgg4
  z4 := Tryz.sizeOf4
  v4 := Tryz.zeroValue4
  t5 := Tryz.underlying5
  a5 := Tryz.isAgg5
  z5 := Tryz.sizeOf5
  v5 := Tryz.zeroValue5
  t9 := Tryz.underlying9
  a9 := Tryz.isAgg9
  z9 := Tryz.sizeOf9
  v9 := Tryz.zeroValue9
  t22 := Tryz.underlying24
  a22 := Tryz.isAgg24
  z22 := Tryz.sizeOf24
  v22 := Tryz.zeroValue24
  t25 := Tryz.underlying231
  a25 := Tryz.isAgg231
  z25 := Tryz.sizeOf231
  v25 := Tryz.zeroValue231
  t39 := Tryz.underlying275
  a39 := Tryz.isAgg275
  z39 := Tryz.sizeOf275
  v39 := Tryz.zeroValue275
  t45 := Tryz.underlying305
  a45 := Tryz.isAgg305
  z45 := Tryz.sizeOf305
  v45 := Tryz.zeroValue305
  t46 := Tryz.underlying306
  a46 := Tryz.isAgg306
  z46 := Tryz.sizeOf306
  v46 := Tryz.zeroValue306
  t50 := Tryz.underlying203
  a50 := Tryz.isAgg203
  z50 := Tryz.sizeOf203
  v50 := Tryz.zeroValue203
  t53 := Tryz.underlying287
  a53 := Tryz.isAgg287
  z53 := Tryz.sizeOf287
  v53 := Tryz.zeroValue287
  t55 := Tryz.underlying255
  a55 := Tryz.isAgg255
  z55 := Tryz.sizeOf255
  v55 := Tryz.zeroValue255
  t66 := Tryz.underlying337
  a66 := Tryz.isAgg337
  z66 := Tryz.sizeOf337
  v66 := Tryz.zeroValue337
  t70 := Tryz.underlying341
  a70 := Tryz.isAgg341
  z70 := Tryz.sizeOf341
  v70 := Tryz.zeroValue341
  t76 := Tryz.underlying371
  a76 := Tryz.isAgg371
  z76 := Tryz.sizeOf371
  v76 := Tryz.zeroValue371
  t77 := Tryz.underlying182
  a77 := Tryz.isAgg182
  z77 := Tryz.sizeOf182
  v77 := Tryz.zeroValue182 }
end Go.Proofs
