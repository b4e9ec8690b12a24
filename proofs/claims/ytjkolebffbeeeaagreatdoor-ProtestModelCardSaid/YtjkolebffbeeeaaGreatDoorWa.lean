/- The smallest functions; sets of strings; predicates. -/
import Derived.Test.YtjkolebffbeeeaaGreatDoorGt
namespace Go.Proofs.YtjkolebffbeeeaaGreatDoor
open Go Go.RowKit Go.Proofs
attribute [local irreducible] J JQ JL JA JD

@[reducible] instance (priority := high) beqBA : BEq ByteArray := instBEqOfDecidableEq
def eS (x : ByteArray) : List Value := [.string x]
theorem ES : Enc 1 eS := ⟨fun _ => rfl, fun x v h => by simp [eS] at h; subst h; rfl⟩
def okS (s : ByteArray) : Prop := s.size ≤ maxLen
def kS (s : ByteArray) : Value := .string s
theorem KS {P : Program} {t : TypeId} [u : Und P t .string] : KeyL P t kS okS where
 law := Maps.string_keyed u.h
 key := fun x hx => ⟨_, WideMaps.keyOf_string_mk u.h hx⟩
 inj := fun x y h => by simpa [kS] using h
/-- A predicate, as a closure. -/
def PrC (f : FuncId) (caps : Array Value) (p : ByteArray → Bool) (l : List ByteArray) (w0 : World) : Prop := ∀ x ∈ l, ∀ W, Below w0.heap.size w0 W → Calls Tryz.prog f (#[] ++ #[.string x] ++ caps) W (Back (.bool (p x)) W)
def ixF (p : ByteArray → Bool) : List ByteArray → Nat → Int
 | [], _ => -1
 | x :: l, k => if p x then (k : Nat) else ixF p l (k + 1)
theorem ixF_any (p : ByteArray → Bool) : ∀ (l : List ByteArray) (k : Nat), decide (0 ≤ ixF p l k) = l.any p
 | [], k => by simp [ixF]
 | x :: l, k => by
  unfold ixF
  cases h : p x
  ·rw [if_neg (by simp), ixF_any p l (k + 1)]; simp [h]
  ·rw [if_pos rfl]; simp [h]

set_option maxRecDepth 100000 in
set_option maxHeartbeats 4000000 in
theorem within65 (n a b : Int) (w : World) : Calls Tryz.prog 65 #[.int .i64 n, .int .i64 a, .int .i64 b] w (Back (.bool (decide (a ≤ n ∧ n ≤ b))) w) := by
 refine J_enter (fun _ => False) (vs := [.int .i64 n, .int .i64 a, .int .i64 b]) (k := 12) (l := [(0, .int .i64 n), (1, .int .i64 a), (2, .int .i64 b)]) Tryz.func65 rfl rfl Tryz.ntmps65 rfl rfl (Wd.start _) ?_
 refine s10 ?_
 refine JL_dec (fun h9 => ?_) (fun h9 => ?_)
 ·refine s4 ?_
  refine JL_dec (fun h13 => ?_) (fun h13 => ?_)
  ·refine s5 ?_
   refine JR_one rfl (rr_tmp rfl) ?_
   intro w' hw
   exact ⟨by congr 2; exact (by first | exact (decide_eq_true (by omega)).symm | exact (decide_eq_false (by omega)).symm), hw.bel⟩
  ·refine s5 ?_
   refine JR_one rfl (rr_tmp rfl) ?_
   intro w' hw
   exact ⟨by congr 2; exact (by first | exact (decide_eq_true (by omega)).symm | exact (decide_eq_false (by omega)).symm), hw.bel⟩
 ·refine s9 ?_
  refine JR_one rfl (rr_tmp rfl) ?_
  intro w' hw
  exact ⟨by congr 2; exact (by first | exact (decide_eq_true (by omega)).symm | exact (decide_eq_false (by omega)).symm), hw.bel⟩
set_option maxRecDepth 100000 in
set_option maxHeartbeats 4000000 in
theorem In80 (n a b : Int) (w : World) : Calls Tryz.prog 80 #[.int .i64 n, .int .i64 a, .int .i64 b] w (Back (.bool (decide (a ≤ n ∧ n ≤ b))) w) := by
 refine J_enter (fun _ => False) (vs := [.int .i64 n, .int .i64 a, .int .i64 b]) (k := 12) (l := [(0, .int .i64 n), (1, .int .i64 a), (2, .int .i64 b)]) Tryz.func80 rfl rfl Tryz.ntmps80 rfl rfl (Wd.start _) ?_
 refine s10 ?_
 refine JL_dec (fun h9 => ?_) (fun h9 => ?_)
 ·refine s4 ?_
  refine JL_dec (fun h13 => ?_) (fun h13 => ?_)
  ·refine s5 ?_
   refine JR_one rfl (rr_tmp rfl) ?_
   intro w' hw
   exact ⟨by congr 2; exact (by first | exact (decide_eq_true (by omega)).symm | exact (decide_eq_false (by omega)).symm), hw.bel⟩
  ·refine s5 ?_
   refine JR_one rfl (rr_tmp rfl) ?_
   intro w' hw
   exact ⟨by congr 2; exact (by first | exact (decide_eq_true (by omega)).symm | exact (decide_eq_false (by omega)).symm), hw.bel⟩
 ·refine s9 ?_
  refine JR_one rfl (rr_tmp rfl) ?_
  intro w' hw
  exact ⟨by congr 2; exact (by first | exact (decide_eq_true (by omega)).symm | exact (decide_eq_false (by omega)).symm), hw.bel⟩
set_option maxRecDepth 100000 in
set_option maxHeartbeats 4000000 in
theorem in58 (n a b : Int) (w : World) : Calls Tryz.prog 58 #[.int .i64 n, .int .i64 a, .int .i64 b] w (Back (.bool (decide (a ≤ n ∧ n ≤ b))) w) := by
 refine J_enter (fun _ => False) (vs := [.int .i64 n, .int .i64 a, .int .i64 b]) (k := 8) (l := [(0, .int .i64 n), (1, .int .i64 a), (2, .int .i64 b)]) Tryz.func58 rfl rfl Tryz.ntmps58 rfl rfl (Wd.start _) ?_
 refine s10 ?_
 refine aCB (fun w hw => In80 n a b w) ?_
 refine s4 ?_
 refine JR_one rfl (rr_tmp rfl) ?_
 intro w' hw
 exact ⟨rfl, hw.bel⟩
set_option maxRecDepth 100000 in
set_option maxHeartbeats 4000000 in
theorem IndexFunc101 (f : FuncId) (caps : Array Value) (p : ByteArray → Bool) (l : List ByteArray) (v : Value) (w : World) [hf : Cf Tryz.prog f] (hcl : PrC f caps p l w) (hrow : Arr 1 eS w v l) : Calls Tryz.prog 101 #[v, .func (.func f) #[] caps] w (Back (.int .i64 (ixF p l 0)) w) := by
 obtain ⟨A, cap, rfl, -, ⟨hl, -⟩, hA⟩ := hrow
 refine J_enter (fun _ => False) (vs := [.slice A l.length cap, .func (.func f) #[] caps]) (k := 17) (l := [(0, .slice A l.length cap), (1, .func (.func f) #[] caps)]) Tryz.func101 rfl rfl Tryz.ntmps101 rfl rfl (Wd.start _) ?_
 refine s14 ?_
 refine xL (T := Nat) (fun k => k ≤ l.length ∧ ixF p l 0 = ixF p (l.drop k) k) (fun k => [(0, .slice A l.length cap), (1, .func (.func f) #[] caps), (7, .int .i64 (l.length : Nat)), (8, .int .i64 (k : Nat))]) (fun k => []) (fun k => l.length - k) 0 ⟨Nat.zero_le _, rfl⟩ ?_
 rintro k ⟨hk, hix⟩
 refine s3 ?_
 refine JL_dec (fun h9 => ?_) (fun h9 => ?_)
 ·refine s15 ?_
  have hlt : k < l.length := by omega
  obtain ⟨b, q, rfl, hh⟩ := hA (by intro e; subst e; simp at hlt)
  obtain ⟨x, hx⟩ : ∃ x, l[k]'hlt = x := ⟨_, rfl⟩
  have hdr : l.drop k = x :: l.drop (k + 1) := by rw [List.drop_eq_getElem_cons hlt, hx]
  have hxm : x ∈ l := by rw [← hx]; exact List.getElem_mem _
  refine s5 ?_
  refine aV (vHold rfl rfl (fun h => h) hh hlt (by omega) (by rw [hx]; rfl)) ?_
  refine aW (ow_callB (ec_val rfl rfl rfl Cf.h) rfl rfl (fun w hw => hcl x hxm w hw.bel)) (fun _ _ => ?_)
  refine JL_bool (fun h16 => ?_) (fun h16 => ?_)
  ·refine s4 ?_
   refine kJ [(5, _)] ?_
   refine s11 ?_
   refine JR_one rfl (rr_tmp rfl) ?_
   intro w' hw
   have e : ixF p l 0 = (k : Nat) := by rw [hix, hdr]; show (if p x = true then _ else _) = _; rw [h16]; rfl
   rw [e]; exact ⟨rfl, hw.bel⟩
  ·refine s6 ?_
   refine kJ [(0, _), (1, _), (7, _), (8, _)] ?_
   refine s4 ?_
   have hn : ixF p l 0 = ixF p (l.drop (k + 1)) (k + 1) := by rw [hix, hdr]; show (if p x = true then _ else _) = _; rw [h16]; rfl
   exact xR (k + 1) ⟨by omega, hn⟩ (by omega)
 ·refine s10 ?_
  refine kJ [] ?_
  refine s5 ?_
  refine JR_one rfl (rr_tmp rfl) ?_
  intro w' hw
  have ek : k = l.length := by omega
  subst ek
  rw [List.drop_length] at hix
  rw [hix]; exact ⟨rfl, hw.bel⟩
theorem PrC.up {f : FuncId} {caps : Array Value} {p : ByteArray → Bool} {l : List ByteArray} {w w1 : World} (h : PrC f caps p l w) (hb : Below w.heap.size w w1) : PrC f caps p l w1 := fun x hx W hW => h x hx W (hb.trans (hW.mono hb.size))
set_option maxRecDepth 100000 in
set_option maxHeartbeats 4000000 in
theorem ContainsFunc81 (f : FuncId) (caps : Array Value) (p : ByteArray → Bool) (l : List ByteArray) (v : Value) (w : World) [hf : Cf Tryz.prog f] (hcl : PrC f caps p l w) (hrow : Arr 1 eS w v l) : Calls Tryz.prog 81 #[v, .func (.func f) #[] caps] w (Back (.bool (l.any p)) w) := by
 obtain ⟨A, cap, rfl⟩ := hrow.form
 refine J_enter (fun _ => False) (vs := [.slice A l.length cap, .func (.func f) #[] caps]) (k := 7) (l := [(0, .slice A l.length cap), (1, .func (.func f) #[] caps)]) Tryz.func81 rfl rfl Tryz.ntmps81 rfl rfl (Wd.start _) ?_
 refine s9 ?_
 refine aCB (fun w hw => IndexFunc101 f caps p l _ w (hcl.up hw.bel) (hrow.up ES hw.bel)) ?_
 refine s5 ?_
 refine JR_one rfl (rr_tmp rfl) ?_
 intro w' hw
 rw [ixF_any]
 exact ⟨rfl, hw.bel⟩
end Go.Proofs.YtjkolebffbeeeaaGreatDoor
