/- LeagueDraws: plain law; a map that is a set of pairs. -/
import Derived.Test.YtlfbbofcnonhdaaPi
import Derived.Test.YtlfbbofcnonhdaaPb
namespace Go.Proofs.Ytlfbbofcnonhdaa
open Go Go.RowKit Go.Proofs

def pls (d : List (Int × Int)) (k : Nat) : List Int := (d.take k).reverse.flatMap fun x => [x.2, x.1]
def mts (P : List (List (Int × Int))) (i : Nat) (d : List (Int × Int)) (k : Nat) : List (Int × Int) := (d.take k).reverse ++ ((P.take i).flatten).reverse
def okG (T : Nat) (P : List (List (Int × Int))) (i : Nat) (d : List (Int × Int)) (k : Nat) : Bool :=
  let x := d.getD k (0, 0)
  decide (0 ≤ x.1) && decide (x.1 < x.2) && decide (x.2 < T) && !(mts P i d k).contains x && !(pls d k).contains x.1 && !(pls d k).contains x.2
def okB (T L : Nat) : Bool :=
  let P := drI T L (cir T)
  ((List.range P.length).all fun i => let d := P.getD i []; decide (0 < d.length) && decide (d.length ≤ L) && (List.range d.length).all fun k => okG T P i d k) && decide (P.flatten.length = T * (T - 1) / 2)
theorem all_okB : ∀ T : Fin 17, ∀ L : Fin 9, 2 ≤ T.1 → 1 ≤ L.1 → okB T.1 L.1 = true := by decide +kernel
theorem pls_succ (d : List (Int × Int)) (k : Nat) (h : k < d.length) : pls d (k + 1) = (d[k]'h).2 :: (d[k]'h).1 :: pls d k := by
  unfold pls; rw [List.take_succ_eq_append_getElem h, List.reverse_append]; rfl
theorem mts_succ (P : List (List (Int × Int))) (i : Nat) (d : List (Int × Int)) (k : Nat) (h : k < d.length) : mts P i d (k + 1) = d[k]'h :: mts P i d k := by
  unfold mts; rw [List.take_succ_eq_append_getElem h, List.reverse_append]; rfl
theorem mts_next (P : List (List (Int × Int))) (i : Nat) (h : i < P.length) : mts P i (P[i]'h) (P[i]'h).length = mts P (i + 1) [] 0 := by
  unfold mts; rw [List.take_length, List.take_succ_eq_append_getElem h, List.flatten_append, List.reverse_append]; simp
theorem mts_len (P : List (List (Int × Int))) (i : Nat) (d : List (Int × Int)) (k : Nat) : (mts P i d k).length ≤ d.length + P.flatten.length := by
  unfold mts
  have h1 : ((P.take i).flatten).length ≤ P.flatten.length := by
    conv => rhs; rw [← List.take_append_drop i P]
    rw [List.flatten_append, List.length_append]; omega
  rw [List.length_append, List.length_reverse, List.length_reverse, List.length_take]; omega
theorem mts0 (P : List (List (Int × Int))) (i : Nat) (d : List (Int × Int)) : mts P i d 0 = mts P i [] 0 := by unfold mts; simp
structure GmOk (T : Nat) (P : List (List (Int × Int))) (i : Nat) (d : List (Int × Int)) (k : Nat) (x : Int × Int) : Prop where
  bd : 0 ≤ x.1 ∧ x.1 < x.2 ∧ x.2 < T
  m : (mts P i d k).contains x = false
  p1 : (pls d k).contains x.1 = false
  p2 : (pls d k).contains x.2 = false
theorem dr_ok {T L : Nat} (hT : 2 ≤ T ∧ T ≤ 16) (hL : 1 ≤ L ∧ L ≤ 8) : (∀ i (h : i < (drI T L (cir T)).length), (0 < ((drI T L (cir T))[i]'h).length ∧ ((drI T L (cir T))[i]'h).length ≤ L) ∧ ∀ k (hk : k < ((drI T L (cir T))[i]'h).length), GmOk T (drI T L (cir T)) i ((drI T L (cir T))[i]'h) k (((drI T L (cir T))[i]'h)[k]'hk)) ∧ (drI T L (cir T)).flatten.length = T * (T - 1) / 2 := by
  have h := all_okB ⟨T, by omega⟩ ⟨L, by omega⟩ hT.1 hL.1
  unfold okB at h
  try dsimp only at h
  generalize drI T L (cir T) = P at *
  rw [Bool.and_eq_true, decide_eq_true_eq] at h
  refine ⟨fun i hi => ?_, h.2⟩
  have h1 := List.all_eq_true.1 h.1 i (List.mem_range.2 hi)
  have e : P.getD i [] = P[i]'hi := by rw [List.getD_eq_getElem?_getD, List.getElem?_eq_getElem hi]; rfl
  try dsimp only at h1
  rw [e, Bool.and_eq_true, Bool.and_eq_true, decide_eq_true_eq, decide_eq_true_eq] at h1
  refine ⟨h1.1, fun k hk => ?_⟩
  have h2 := List.all_eq_true.1 h1.2 k (List.mem_range.2 hk)
  unfold okG at h2
  have e2 : (P[i]'hi).getD k (0, 0) = (P[i]'hi)[k]'hk := by rw [List.getD_eq_getElem?_getD, List.getElem?_eq_getElem hk]; rfl
  try dsimp only at h2
  rw [e2] at h2
  simp only [Bool.and_eq_true, decide_eq_true_eq, Bool.not_eq_true'] at h2
  obtain ⟨⟨⟨⟨⟨q1, q2⟩, q3⟩, q4⟩, q5⟩, q6⟩ := h2
  exact ⟨⟨q1, q2, q3⟩, q4, q5, q6⟩
/-- A map that is a set of pairs, each put once. -/
def metB (b : Nat) (S : List (Int × Int)) : It := mapB 42 4 kP W2 dB b S.length S.length (setM S)
section
open Go
variable {P : Program} {n : Nat} {B : Bs} {o : Oper} {l : Sl} {H H' : List It}
theorem ow_makeMet {d : Nat} (ho : o.op = .makeMap 39 none) (hd : o.dst = some d) (hn : Nat.ble n d = false) :
    OpW Try.prog n B none l H o (fun b : Nat => B.w.heap.size ≤ b) (fun b => (d, .map (some b)) :: l) (fun b => metB b [] :: H) := by
  have e : ∀ b, metB b [] = mapB 42 4 kP W2 dB b 0 0 (fun _ => none) := fun b => by unfold metB setM; simp
  simp only [e]
  exact ow_makeMap ho hd hn (fun _ => by kernel_rfl)
theorem rv_lookMet {x y : Operand} {b : Nat} {S : List (Int × Int)} (k : Int × Int) {u : Value} (ho : o.op = .lookup 39 x y false) (hx : evl l x = some (.map (some b))) (hy : evl l y = some u) (hm : metB b S ∈ H) (hu : u = kP k) (hk : W2 k) :
    RV Try.prog n B l H o (.bool (S.contains k)) := by
  have h := rv_look (n := n) (B := B) K42 E4 k Try.underlying39 ho hx hy hm hu hk
  rw [setM_get] at h
  exact h
theorem ow_putMet {x y q : Operand} {b : Nat} {S : List (Int × Int)} {u s : Value} (k : Int × Int) (ho : o.op = .mapUpdate 39 x y q) (hd : o.dst = none) (hx : evl l x = some (.map (some b))) (hy : evl l y = some u) (hq : evl l q = some s) (hu : u = kP k) (hs : s = .bool true) (hno : S.contains k = false)
    (hat : At (metB b S) (metB b (k :: S)) H H') (hk : W2 k) (hmn : S.length < 1000000) : OpW Try.prog n B (some (metB b S)) l H o (fun _ : Unit => True) (fun _ => l) (fun _ => H') := by
  have e : mapB 42 4 kP W2 dB b (S.length + 1) (if (setM S k).isSome then S.length else S.length + 1) (upd (setM S) k true) = metB b (k :: S) := by
    have h1 : (setM S k).isSome = false := by unfold setM; rw [hno]; rfl
    unfold metB
    rw [h1, setM_upd]; rfl
  exact ow_put K42 E4 k true Try.underlying39 ho hd hx hy hq hu hs (by rw [e]; exact hat) hk trivial hmn
theorem rv_lenMet {x : Operand} {b : Nat} {S : List (Int × Int)} (ho : o.op = .call { callee := .builtin .len, args := #[x], argTypes := #[39] }) (hx : evl l x = some (.map (some b))) (hm : metB b S ∈ H) : RV Try.prog n B l H o (.int .i64 (S.length : Nat)) := fun a w ha hw => by
  have h : MapF 42 4 kP W2 dB w b S.length S.length (setM S) := (hw.ok _ hm).1
  have h1 := h.len Try.underlying39 o.type
  unfold execOp
  simp only [ho, resolve, invoke, builtin, Sem.run_bind, Sem.run_pure, Result.andThen_ok, List.map_toArray, List.map_cons, List.map_nil, ha.ev hx, h1]
end
end Go.Proofs.Ytlfbbofcnonhdaa
