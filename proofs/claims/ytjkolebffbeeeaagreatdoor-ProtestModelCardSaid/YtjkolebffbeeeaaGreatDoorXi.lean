/- The law: sample, awake, spoil. -/
import Derived.Test.YtjkolebffbeeeaaGreatDoorXh
namespace Go.Proofs.YtjkolebffbeeeaaGreatDoor
open Go Go.RowKit Go.Proofs
attribute [local irreducible] J JQ JL JA JD

abbrev n_early : ByteArray := ⟨#[101, 97, 114, 108, 121]⟩
abbrev n_guard : ByteArray := ⟨#[103, 117, 97, 114, 100]⟩
abbrev n_ff : ByteArray := ⟨#[102, 105, 114, 115, 116, 45, 102, 111, 117, 114]⟩
abbrev n_gg : ByteArray := ⟨#[103, 117, 97, 114, 100, 45, 103, 111, 110, 101]⟩
abbrev n_og : ByteArray := ⟨#[111, 119, 110, 45, 103, 117, 97, 114, 100]⟩
abbrev n_foul : ByteArray := ⟨#[102, 111, 117, 108]⟩
abbrev n_la : ByteArray := ⟨#[97]⟩
abbrev n_lb : ByteArray := ⟨#[98]⟩
abbrev n_lc : ByteArray := ⟨#[99]⟩
theorem cell_arr {α : Type} {k : Nat} {enc : α → List Value} (E : Enc k enc) {w : World} {b ty : Nat} {vs : List Value} (L : List α) (h : (cellB b vs ty).holds w) (hv : vs = L.flatMap enc) (hn : L.length ≤ 1000) : Arr k enc w (.slice (some ⟨b, 0, none⟩) L.length L.length) L := by
 subst hv
 refine ⟨_, _, rfl, Nat.le_refl _, ⟨by omega, by unfold maxLen; omega⟩, fun _ => ⟨b, 0, rfl, fun j hj i hi => ?_⟩⟩
 have h' : w.heap[b]? = some (.cells (L.flatMap enc).toArray ty (0, 0)) := h
 rw [Nat.zero_add, ← flat_get E hj i hi]
 have hlt : j * k + i < (L.flatMap enc).length := by
  rw [flat_len E]
  have : (j + 1) * k ≤ L.length * k := Nat.mul_le_mul_right k hj
  rw [Nat.succ_mul] at this; omega
 simp [World.cell?, h']
structure SmT where
 b1 : Nat
 b3 : Nat
 b4 : Nat
 b6 : Nat
def samB (t : SmT) : List Cl := [⟨n_early, 0, 1000, ⟨some ⟨t.b1, 0, none⟩, 1, 1, [n_ff]⟩, ⟨none, 0, 0, []⟩, n_early⟩, ⟨n_guard, 10, 1000, ⟨some ⟨t.b3, 0, none⟩, 2, 2, [n_early, n_gg]⟩, ⟨some ⟨t.b4, 0, none⟩, 1, 1, [n_og]⟩, n_foul⟩]
def samG (t : SmT) : List It := [cellB t.b1 ([n_ff].flatMap eS) 9, cellB t.b3 ([n_early, n_gg].flatMap eS) 9, cellB t.b4 ([n_og].flatMap eS) 9, cellB t.b6 ((samB t).flatMap eC) 40]
theorem ok_lit {s : ByteArray} (h : s.size ≤ 1000) : okS s := Nat.le_trans h (by decide)
theorem sam_bk {t : SmT} {w : World} (h : ∀ A ∈ samG t, A.holds w) : BkW w (samB t) (some ⟨t.b6, 0, none⟩) 2 := by
 have h1 := h _ (show cellB t.b1 ([n_ff].flatMap eS) 9 ∈ samG t by unfold samG; repeat constructor)
 have h2 := h _ (show cellB t.b3 ([n_early, n_gg].flatMap eS) 9 ∈ samG t by unfold samG; repeat constructor)
 have h3 := h _ (show cellB t.b4 ([n_og].flatMap eS) 9 ∈ samG t by unfold samG; repeat constructor)
 have h4 := h _ (show cellB t.b6 ((samB t).flatMap eC) 40 ∈ samG t by unfold samG; repeat constructor)
 refine ⟨cell_arr EC6 (samB t) h4 rfl (show 2 ≤ 1000 by decide), fun x hx => ?_⟩
 have hok : ∀ l : List ByteArray, (∀ s ∈ l, s.size ≤ 1000) → ∀ s ∈ l, okS s := fun l h s hs => ok_lit (h s hs)
 rcases List.mem_cons.1 hx with rfl | hx
 ·exact ⟨cell_arr ES [n_ff] h1 rfl (by decide), Arr.nil w, hok [n_ff] (by decide), hok [] (by decide), ok_lit (s := n_early) (by decide), ok_lit (s := n_early) (by decide)⟩
 ·rw [List.mem_singleton.1 hx]
  exact ⟨cell_arr ES [n_early, n_gg] h2 rfl (by decide), cell_arr ES [n_og] h3 rfl (by decide), hok [n_early, n_gg] (by decide), hok [n_og] (by decide), ok_lit (s := n_guard) (by decide), ok_lit (s := n_foul) (by decide)⟩
theorem sam_W {B : Bs} {H : List It} {w : World} (t : SmT) (hw : Wd B H w) (hk : Pk (samG t) H) : BkW w (samB t) (some ⟨t.b6, 0, none⟩) 2 := sam_bk (fun A hA => ((hw.pick hk).ok A hA).1)
set_option maxRecDepth 100000 in
set_option maxHeartbeats 4000000 in
theorem sample36 (w : World) : Calls Tryz.prog 36 #[] w (Ret w (fun _ : SmT => True) (fun t => .slice (some ⟨t.b6, 0, none⟩) 2 2) samG) := by
 refine J_enter (fun _ => False) (vs := []) (k := 7) (l := []) Tryz.func36 rfl rfl Tryz.ntmps36 rfl rfl (Wd.start _) ?_
 refine s7 ?_
 refine aW (ow_sliceC (vs := [_]) (ty := 9) rfl rfl (by rfl) rfl rfl (fun _ => by kernel_rfl)) (fun b1 hb1 => ?_)
 refine aP (rp_buildC (fun us => [us.getD 0 undef, .int .i64 0, us.getD 1 undef, us.getD 2 undef, .slice none 0 0, us.getD 3 undef]) rfl rfl (fun w => by kernel_rfl)) ?_
 refine aW (ow_sliceC (vs := [_, _]) (ty := 9) rfl rfl (by rfl) rfl rfl (fun _ => by kernel_rfl)) (fun b3 hb3 => ?_)
 refine aW (ow_sliceC (vs := [_]) (ty := 9) rfl rfl (by rfl) rfl rfl (fun _ => by kernel_rfl)) (fun b4 hb4 => ?_)
 refine aP (rp_buildC (fun us => [us.getD 0 undef, us.getD 1 undef, us.getD 2 undef, us.getD 3 undef, us.getD 4 undef, us.getD 5 undef]) rfl rfl (fun w => by kernel_rfl)) ?_
 refine aW (ow_sliceC (vs := [_, _, _, _, _, _, _, _, _, _, _, _]) (ty := 40) rfl rfl (by rfl) rfl rfl (fun _ => by kernel_rfl)) (fun b6 hb6 => ?_)
 refine s4 ?_
 refine JR_one rfl (rr_tmp rfl) ?_
 intro w' hw
 exact ⟨⟨b1, b3, b4, b6⟩, trivial, rfl, hw.pick (by unfold samG samB; repeat constructor)⟩
abbrev n_out : ByteArray := ⟨#[103, 117, 97, 114, 100, 58, 32, 102, 111, 117, 108, 32, 105, 102, 32, 101, 97, 114, 108, 121, 44, 32, 103, 117, 97, 114, 100, 45, 103, 111, 110, 101, 32, 117, 110, 108, 101, 115, 115, 32, 111, 119, 110, 45, 103, 117, 97, 114, 100, 10]⟩
theorem sm_bnd (t : SmT) : bndF (samB t) = none := by kernel_rfl
theorem sm_hq (t : SmT) : hldQ (samB t) 10 [n_ff, n_gg] = none := by kernel_rfl
theorem sm_ris (t : SmT) : risF (hldM (samB t) 10 [n_ff, n_gg]).S.reverse = [n_early, n_ff, n_foul, n_gg] := by kernel_rfl
theorem sm_wq (t : SmT) : whyQ (samB t) 10 [n_ff, n_gg] n_foul = none := by kernel_rfl
theorem sm_wp (t : SmT) : whyP (samB t) (hldM (samB t) 10 [n_ff, n_gg]) n_foul = [0, 1] := by kernel_rfl
theorem sm_w9 (t : SmT) : whyQ (samB t) 9 [n_ff, n_gg] n_foul = some (-1, 7) := by kernel_rfl
theorem sm_prv (t : SmT) : prvR (samB t) 10 [n_ff, n_gg] n_foul [1, 0] = .tuple #[.bool false, .int .i64 0, .int .i64 0] := by kernel_rfl
theorem sm_txt (t : SmT) : txtR (samB t) [1] = (n_out, 0) := by kernel_rfl
theorem ff_ok : ∀ s ∈ [n_ff, n_gg], okS s := fun s hs => ok_lit ((show ∀ s ∈ [n_ff, n_gg], s.size ≤ 1000 by decide) s hs)
def twoB (p q : Nat) : List Cl := [⟨n_la, 0, 0, ⟨none, 0, 0, []⟩, ⟨some ⟨p, 0, none⟩, 1, 1, [n_lb]⟩, n_lc⟩, ⟨n_lb, 0, 0, ⟨none, 0, 0, []⟩, ⟨some ⟨q, 0, none⟩, 1, 1, [n_lc]⟩, n_lb⟩]
theorem two_bnd (p q : Nat) : chkR (bndF (twoB p q)) = (-1, 9) := by kernel_rfl
theorem two_bk {p q b : Nat} {w : World} (h1 : (cellB p ([n_lb].flatMap eS) 9).holds w) (h2 : (cellB q ([n_lc].flatMap eS) 9).holds w) (h4 : (cellB b ((twoB p q).flatMap eC) 40).holds w) : BkW w (twoB p q) (some ⟨b, 0, none⟩) 2 := by
 refine ⟨cell_arr EC6 (twoB p q) h4 rfl (show 2 ≤ 1000 by decide), fun x hx => ?_⟩
 have hok : ∀ l : List ByteArray, (∀ s ∈ l, s.size ≤ 1000) → ∀ s ∈ l, okS s := fun l h s hs => ok_lit (h s hs)
 rcases List.mem_cons.1 hx with rfl | hx
 ·exact ⟨Arr.nil w, cell_arr ES [n_lb] h1 rfl (by decide), hok [] (by decide), hok [n_lb] (by decide), ok_lit (s := n_la) (by decide), ok_lit (s := n_lc) (by decide)⟩
 ·rw [List.mem_singleton.1 hx]
  exact ⟨Arr.nil w, cell_arr ES [n_lc] h2 rfl (by decide), hok [] (by decide), hok [n_lc] (by decide), ok_lit (s := n_lb) (by decide), ok_lit (s := n_lb) (by decide)⟩
section
variable {t : SmT} {w : World} {fb : Nat} (hbk : BkW w (samB t) (some ⟨t.b6, 0, none⟩) 2) (hfl : Arr 1 eS w (.slice (some ⟨fb, 0, none⟩) 2 2) [n_ff, n_gg])
include hbk
theorem aw_txt {sb : Nat} (hs : Arr 1 eI w (.slice (some ⟨sb, 0, none⟩) 1 1) [1]) : Calls Tryz.prog 14 #[.slice (some ⟨t.b6, 0, none⟩) 2 2, .slice (some ⟨sb, 0, none⟩) 1 1] w  (Back (.tuple #[.string n_out, .int .i64 0]) w) :=
 (Text14 (samB t) _ 2 [1] (some ⟨sb, 0, none⟩) 1 w hbk hs (by decide)).mono (fun _ _ h => by rw [sm_txt] at h; exact h)
include hfl
theorem aw_hld : Calls Tryz.prog 16 #[.slice (some ⟨t.b6, 0, none⟩) 2 2, .int .i64 10, .slice (some ⟨fb, 0, none⟩) 2 2] w  (Ret w (fun _ : Option Addr × Nat => True) (fun q => .tuple #[.slice q.1 4 q.2, .int .i64 0]) (fun q => [ownB 9 1 q.1 4 q.2 ([n_early, n_ff, n_foul, n_gg].flatMap eS)])) :=
 (Holds16 (samB t) _ 2 10 [n_ff, n_gg] (some ⟨fb, 0, none⟩) 2 ff_ok w hbk hfl).mono (fun _ _ h => by
  unfold RetHd at h; rw [sm_hq] at h
  obtain ⟨⟨L, A, c⟩, h1, h2, h3⟩ := h
  have e : L = [n_early, n_ff, n_foul, n_gg] := h1.uniq (by rw [← sm_ris t]; exact sop_rev _)
  subst e
  exact ⟨(A, c), trivial, h2, h3⟩)
theorem aw_why : Calls Tryz.prog 21 #[.slice (some ⟨t.b6, 0, none⟩) 2 2, .int .i64 10, .slice (some ⟨fb, 0, none⟩) 2 2, .string n_foul] w  (Ret w (fun _ : Option Addr × Nat => True) (fun q => .tuple #[.slice q.1 2 q.2, .int .i64 0]) (fun q => [ownB 3 1 q.1 2 q.2 (([0, 1] : List Int).flatMap eI)])) :=
 (Why21 (samB t) _ 2 10 [n_ff, n_gg] (some ⟨fb, 0, none⟩) 2 n_foul ff_ok (ok_lit (by decide)) w hbk hfl).mono (fun _ _ h => by
  unfold RetWy at h; rw [sm_wq] at h; dsimp only at h; rw [sm_wp] at h; exact h)
theorem aw_why9 : Calls Tryz.prog 21 #[.slice (some ⟨t.b6, 0, none⟩) 2 2, .int .i64 9, .slice (some ⟨fb, 0, none⟩) 2 2, .string n_foul] w  (Back (.tuple #[.slice none 0 0, .int .i64 7]) w) :=
 (Why21 (samB t) _ 2 9 [n_ff, n_gg] (some ⟨fb, 0, none⟩) 2 n_foul ff_ok (ok_lit (by decide)) w hbk hfl).mono (fun _ _ h => by
  unfold RetWy at h; rw [sm_w9] at h; exact h)
theorem aw_prv {sb : Nat} (hs : Arr 1 eI w (.slice (some ⟨sb, 0, none⟩) 2 2) [1, 0]) : Calls Tryz.prog 12 #[.slice (some ⟨t.b6, 0, none⟩) 2 2, .int .i64 10, .slice (some ⟨fb, 0, none⟩) 2 2, .slice (some ⟨sb, 0, none⟩) 2 2, .string n_foul] w  (Back (.tuple #[.bool false, .int .i64 0, .int .i64 0]) w) :=
 (Proves12 (samB t) _ 2 10 [n_ff, n_gg] (some ⟨fb, 0, none⟩) 2 [1, 0] (some ⟨sb, 0, none⟩) 2 n_foul ff_ok (ok_lit (by decide)) w hbk hfl hs (by decide)).mono (fun _ _ h => by rw [sm_prv] at h; exact h)
end
set_option maxRecDepth 100000 in
set_option maxHeartbeats 4000000 in
theorem awake11 (w : World) : Calls Tryz.prog 11 #[] w (Back (.bool true) w) := by
 refine J_enter (fun _ => False) (vs := []) (k := 107) (l := []) Tryz.func11 rfl rfl Tryz.ntmps11 rfl rfl (Wd.start _) ?_
 refine s7 ?_
 refine aW (ow_sliceC (vs := [_, _]) (ty := 9) rfl rfl (by rfl) rfl rfl (fun _ => by kernel_rfl)) (fun b16 hb16 => ?_)
 refine s5 ?_
 refine aW (oR (fun w hw => sample36 w)) (fun t18 _ => ?_)
 dsimp only [samG, List.cons_append, List.nil_append]
 refine s1 ?_
 refine aW (oR (fun w hw => aw_hld (sam_W t18 hw (by unfold samG; repeat constructor)) (cell_arr ES [n_ff, n_gg] (hw.ok (cellB b16 [.string n_ff, .string n_gg] 9) (by repeat constructor)).1 rfl (by decide)))) (fun t20 _ => ?_)
 obtain ⟨A20, c20⟩ := t20
 dsimp only [List.cons_append, List.nil_append]
 refine s8 ?_
 refine kJ [(1, _), (2, _), (3, _)] ?_
 refine s1 ?_
 refine aW (oR (fun w hw => sample36 w)) (fun t24 _ => ?_)
 dsimp only [samG, List.cons_append, List.nil_append]
 refine s1 ?_
 refine aW (oR (fun w hw => aw_why (sam_W t24 hw (by unfold samG; repeat constructor)) (cell_arr ES [n_ff, n_gg] (hw.ok (cellB b16 [.string n_ff, .string n_gg] 9) (by repeat constructor)).1 rfl (by decide)))) (fun t26 _ => ?_)
 obtain ⟨A26, c26⟩ := t26
 dsimp only [List.cons_append, List.nil_append]
 refine s8 ?_
 refine kJ [(1, _), (2, _), (3, _), (4, _), (5, _)] ?_
 refine s1 ?_
 refine aW (oR (fun w hw => sample36 w)) (fun t30 _ => ?_)
 dsimp only [samG, List.cons_append, List.nil_append]
 refine s1 ?_
 refine aCB (fun w hw => aw_why9 (sam_W t30 hw (by unfold samG; repeat constructor)) (cell_arr ES [n_ff, n_gg] (hw.ok (cellB b16 [.string n_ff, .string n_gg] 9) (by repeat constructor)).1 rfl (by decide))) ?_
 refine s8 ?_
 refine kJ [(1, _), (2, _), (3, _), (4, _), (5, _), (7, _)] ?_
 refine s1 ?_
 refine aW (oR (fun w hw => sample36 w)) (fun t36 _ => ?_)
 dsimp only [samG, List.cons_append, List.nil_append]
 refine s1 ?_
 refine aW (ow_sliceC (vs := [_, _]) (ty := 3) rfl rfl (by rfl) rfl rfl (fun _ => by kernel_rfl)) (fun b38 hb38 => ?_)
 refine aCB (fun w hw => aw_prv (sam_W t36 hw (by unfold samG; repeat constructor)) (cell_arr ES [n_ff, n_gg] (hw.ok (cellB b16 [.string n_ff, .string n_gg] 9) (by repeat constructor)).1 rfl (by decide)) (cell_arr EI ([1, 0] : List Int) (hw.ok (cellB b38 [.int .i64 1, .int .i64 0] 3) (by repeat constructor)).1 rfl (by decide))) ?_
 refine s10 ?_
 refine kJ [(2, _), (3, _), (4, _), (5, _), (7, _), (8, _), (9, _), (10, _)] ?_
 refine s1 ?_
 refine aW (oR (fun w hw => sample36 w)) (fun t44 _ => ?_)
 dsimp only [samG, List.cons_append, List.nil_append]
 refine aW (ow_sliceC (vs := [_]) (ty := 3) rfl rfl (by rfl) rfl rfl (fun _ => by kernel_rfl)) (fun b45 hb45 => ?_)
 refine aCB (fun w hw => aw_txt (sam_W t44 hw (by unfold samG; repeat constructor)) (cell_arr EI ([1] : List Int) (hw.ok (cellB b45 [.int .i64 1] 3) (by repeat constructor)).1 rfl (by decide))) ?_
 refine s8 ?_
 refine kJ [(2, _), (3, _), (4, _), (5, _), (7, _), (8, _), (9, _), (10, _), (11, _), (12, _)] ?_
 refine s1 ?_
 refine aW (ow_sliceC (vs := [_]) (ty := 9) rfl rfl (by rfl) rfl rfl (fun _ => by kernel_rfl)) (fun b50 hb50 => ?_)
 refine aP (rp_buildC (fun us => [us.getD 0 undef, .int .i64 0, .int .i64 0, .slice none 0 0, us.getD 1 undef, us.getD 2 undef]) rfl rfl (fun w => by kernel_rfl)) ?_
 refine aW (ow_sliceC (vs := [_]) (ty := 9) rfl rfl (by rfl) rfl rfl (fun _ => by kernel_rfl)) (fun b52 hb52 => ?_)
 refine aP (rp_buildC (fun us => [us.getD 0 undef, .int .i64 0, .int .i64 0, .slice none 0 0, us.getD 1 undef, us.getD 2 undef]) rfl rfl (fun w => by kernel_rfl)) ?_
 refine aW (ow_sliceC (vs := [_, _, _, _, _, _, _, _, _, _, _, _]) (ty := 40) rfl rfl (by rfl) rfl rfl (fun _ => by kernel_rfl)) (fun b54 hb54 => ?_)
 refine aCB (fun w hw => (Check24 (twoB b50 b52) (some ⟨b54, 0, none⟩) 2 w (two_bk (hw.ok (cellB b50 ([n_lb].flatMap eS) 9) (by repeat constructor)).1 (hw.ok (cellB b52 ([n_lc].flatMap eS) 9) (by repeat constructor)).1 (hw.ok (cellB b54 ((twoB b50 b52).flatMap eC) 40) (by repeat constructor)).1)).mono (fun _ _ h => by rw [two_bnd] at h; exact h)) ?_
 refine s8 ?_
 refine kJ [(2, _), (3, _), (4, _), (5, _), (7, _), (8, _), (9, _), (10, _), (11, _), (12, _), (13, _), (14, _)] ?_
 refine s2 ?_
 refine aW (ow_sliceC (vs := [_, _, _, _]) (ty := 9) rfl rfl (by rfl) rfl rfl (fun _ => by kernel_rfl)) (fun b59 hb59 => ?_)
 refine aCB (fun w hw => Same17 [n_early, n_ff, n_foul, n_gg] [n_early, n_ff, n_foul, n_gg] _ _ w (own_arr ES hw (by repeat constructor) (by decide)) (cell_arr ES [n_early, n_ff, n_foul, n_gg] (hw.ok (cellB b59 [.string n_early, .string n_ff, .string n_foul, .string n_gg] 9) (by repeat constructor)).1 rfl (by decide))) ?_
 refine aDecT ?_ rfl
 refine s3 ?_
 refine aDecT ?_
 refine s3 ?_
 refine aW (ow_sliceC (vs := [_, _]) (ty := 3) rfl rfl (by rfl) rfl rfl (fun _ => by kernel_rfl)) (fun b67 hb67 => ?_)
 refine aCB (fun w hw => Ints34 [0, 1] [0, 1] _ _ w (own_arr EI hw (by repeat constructor) (by decide)) (cell_arr EI ([0, 1] : List Int) (hw.ok (cellB b67 [.int .i64 0, .int .i64 1] 3) (by repeat constructor)).1 rfl (by decide))) ?_
 refine aDecT ?_ rfl
 refine s4 ?_
 refine aDecT ?_
 refine s4 ?_
 refine aDecT ?_
 refine s5 ?_
 refine kJ [(8, _), (9, _), (10, _), (11, _), (12, _), (13, _), (14, _), (15, _)] ?_
 refine s9 ?_
 refine aDecT ?_
 refine s4 ?_
 refine aDecT ?_
 refine s4 ?_
 refine aDecT ?_ rfl
 refine s4 ?_
 refine aDecT ?_
 refine s4 ?_
 refine aDecT ?_
 refine s4 ?_
 refine aDecT ?_
 refine s5 ?_
 refine JR_one rfl (rr_tmp rfl) ?_
 intro w' hw
 exact ⟨rfl, hw.bel⟩
set_option maxRecDepth 100000 in
set_option maxHeartbeats 4000000 in
theorem spoil35 (l : List ByteArray) (A : Option Addr) (c : Nat) (w : World) (hlb : l.length ≤ 1000) (hA : (ownB 9 1 A l.length c (l.flatMap eS)).holds w) (hAf : ∀ b, (ownB 9 1 A l.length c (l.flatMap eS)).foot b → b < w.heap.size) : Calls Tryz.prog 35 #[.slice A l.length c] w (RetM (ownB 9 1 A l.length c (l.flatMap eS)) (fun t : List ByteArray => t.length = l.length) (fun _ => .tuple #[]) (fun t => ownB 9 1 A l.length c (t.flatMap eS)) w) := by
 refine J_start (B := ⟨w, (ownB 9 1 A l.length c (l.flatMap eS)).foot, none, []⟩) rfl rfl (vs := [.slice A l.length c]) (k := 11) (l := [(0, .slice A l.length c)]) Tryz.func35 rfl rfl Tryz.ntmps35 rfl rfl (Wd.startM hA hAf) ?_
 refine s6 ?_
 refine xL (T := Nat × List ByteArray) (fun q => q.1 ≤ l.length ∧ q.2.length = l.length) (fun q => [(0, .slice A l.length c), (2, .int .i64 (q.1 : Nat))]) (fun q => [ownB 9 1 A l.length c (q.2.flatMap eS)]) (fun q => l.length - q.1) (0, l) ⟨Nat.zero_le _, rfl⟩ ?_
 rintro ⟨k, Mm⟩ ⟨hk, hml⟩
 dsimp only at hk hml ⊢
 refine s7 ?_
 refine JL_dec (fun h6 => ?_) (fun h6 => ?_)
 ·refine s7 ?_
  refine J_fact (fun hw => ?_)
  obtain ⟨g, rfl⟩ := own_some hw (ty := 9) (k := 1) (m := l.length) (c := c) (A := A) (xs := Mm.flatMap eS) (by repeat constructor) (by omega)
  clear hw
  refine kJ [(0, _), (2, _)] ?_
  refine s4 ?_
  refine aW0 (oStE ES [_] ⟨#[63]⟩ (show k < Mm.length by omega) (hi := Nat.le_refl _)) ?_
  refine s8 ?_
  exact xR (k + 1, Mm.set k ⟨#[63]⟩) ⟨by dsimp only; omega, by dsimp only; rw [List.length_set]; exact hml⟩ (by dsimp only; omega) (hl := ⟨rfl, (congrArg some (by go_num)), trivial⟩)
 ·refine s7 ?_
  refine JR_end rfl ?_
  intro w' hw
  exact ⟨Mm, hml, rfl, hw.pick (by repeat constructor)⟩
end Go.Proofs.YtjkolebffbeeeaaGreatDoor
