/- Closed facts: types, fields, functions. -/
import Derived.Test.YtlfbbofcnonhdaaJa
namespace Go.Proofs.Ytlfbbofcnonhdaa
open Go Go.RowKit Go.Proofs

theorem fa_25_0 : ∀ (b off : Nat) (w : World), (Instr.fieldAt 25 (.pointer (some ⟨b, off, none⟩)) 0).run Try.prog w = .ok (.pointer (some ⟨b, off + 0, none⟩)) w := fun _ _ _ => by kernel_rfl
theorem fa_25_1 : ∀ (b off : Nat) (w : World), (Instr.fieldAt 25 (.pointer (some ⟨b, off, none⟩)) 1).run Try.prog w = .ok (.pointer (some ⟨b, off + 1, none⟩)) w := fun _ _ _ => by kernel_rfl
theorem fa_25_2 : ∀ (b off : Nat) (w : World), (Instr.fieldAt 25 (.pointer (some ⟨b, off, none⟩)) 2).run Try.prog w = .ok (.pointer (some ⟨b, off + 2, none⟩)) w := fun _ _ _ => by kernel_rfl
theorem fa_56_0 : ∀ (b off : Nat) (w : World), (Instr.fieldAt 56 (.pointer (some ⟨b, off, none⟩)) 0).run Try.prog w = .ok (.pointer (some ⟨b, off + 0, none⟩)) w := fun _ _ _ => by kernel_rfl
theorem fa_56_1 : ∀ (b off : Nat) (w : World), (Instr.fieldAt 56 (.pointer (some ⟨b, off, none⟩)) 1).run Try.prog w = .ok (.pointer (some ⟨b, off + 1, none⟩)) w := fun _ _ _ => by kernel_rfl
theorem fa_56_2 : ∀ (b off : Nat) (w : World), (Instr.fieldAt 56 (.pointer (some ⟨b, off, none⟩)) 2).run Try.prog w = .ok (.pointer (some ⟨b, off + 2, none⟩)) w := fun _ _ _ => by kernel_rfl
theorem fa_56_3 : ∀ (b off : Nat) (w : World), (Instr.fieldAt 56 (.pointer (some ⟨b, off, none⟩)) 3).run Try.prog w = .ok (.pointer (some ⟨b, off + 4, none⟩)) w := fun _ _ _ => by kernel_rfl
theorem fa_58_0 : ∀ (b off : Nat) (w : World), (Instr.fieldAt 58 (.pointer (some ⟨b, off, none⟩)) 0).run Try.prog w = .ok (.pointer (some ⟨b, off + 0, none⟩)) w := fun _ _ _ => by kernel_rfl
theorem fa_58_1 : ∀ (b off : Nat) (w : World), (Instr.fieldAt 58 (.pointer (some ⟨b, off, none⟩)) 1).run Try.prog w = .ok (.pointer (some ⟨b, off + 1, none⟩)) w := fun _ _ _ => by kernel_rfl
theorem fa_58_2 : ∀ (b off : Nat) (w : World), (Instr.fieldAt 58 (.pointer (some ⟨b, off, none⟩)) 2).run Try.prog w = .ok (.pointer (some ⟨b, off + 2, none⟩)) w := fun _ _ _ => by kernel_rfl
theorem fa_58_3 : ∀ (b off : Nat) (w : World), (Instr.fieldAt 58 (.pointer (some ⟨b, off, none⟩)) 3).run Try.prog w = .ok (.pointer (some ⟨b, off + 3, none⟩)) w := fun _ _ _ => by kernel_rfl
theorem fa_58_4 : ∀ (b off : Nat) (w : World), (Instr.fieldAt 58 (.pointer (some ⟨b, off, none⟩)) 4).run Try.prog w = .ok (.pointer (some ⟨b, off + 4, none⟩)) w := fun _ _ _ => by kernel_rfl
theorem fa_58_5 : ∀ (b off : Nat) (w : World), (Instr.fieldAt 58 (.pointer (some ⟨b, off, none⟩)) 5).run Try.prog w = .ok (.pointer (some ⟨b, off + 5, none⟩)) w := fun _ _ _ => by kernel_rfl
theorem fa_58_6 : ∀ (b off : Nat) (w : World), (Instr.fieldAt 58 (.pointer (some ⟨b, off, none⟩)) 6).run Try.prog w = .ok (.pointer (some ⟨b, off + 6, none⟩)) w := fun _ _ _ => by kernel_rfl
theorem fa_58_7 : ∀ (b off : Nat) (w : World), (Instr.fieldAt 58 (.pointer (some ⟨b, off, none⟩)) 7).run Try.prog w = .ok (.pointer (some ⟨b, off + 7, none⟩)) w := fun _ _ _ => by kernel_rfl
theorem fa_77_0 : ∀ (b off : Nat) (w : World), (Instr.fieldAt 77 (.pointer (some ⟨b, off, none⟩)) 0).run Try.prog w = .ok (.pointer (some ⟨b, off + 0, none⟩)) w := fun _ _ _ => by kernel_rfl
theorem fa_77_1 : ∀ (b off : Nat) (w : World), (Instr.fieldAt 77 (.pointer (some ⟨b, off, none⟩)) 1).run Try.prog w = .ok (.pointer (some ⟨b, off + 3, none⟩)) w := fun _ _ _ => by kernel_rfl
theorem fa_80_0 : ∀ (b off : Nat) (w : World), (Instr.fieldAt 80 (.pointer (some ⟨b, off, none⟩)) 0).run Try.prog w = .ok (.pointer (some ⟨b, off + 0, none⟩)) w := fun _ _ _ => by kernel_rfl
theorem fa_80_1 : ∀ (b off : Nat) (w : World), (Instr.fieldAt 80 (.pointer (some ⟨b, off, none⟩)) 1).run Try.prog w = .ok (.pointer (some ⟨b, off + 1, none⟩)) w := fun _ _ _ => by kernel_rfl
theorem fa_86_0 : ∀ (b off : Nat) (w : World), (Instr.fieldAt 86 (.pointer (some ⟨b, off, none⟩)) 0).run Try.prog w = .ok (.pointer (some ⟨b, off + 0, none⟩)) w := fun _ _ _ => by kernel_rfl
theorem fa_86_1 : ∀ (b off : Nat) (w : World), (Instr.fieldAt 86 (.pointer (some ⟨b, off, none⟩)) 1).run Try.prog w = .ok (.pointer (some ⟨b, off + 3, none⟩)) w := fun _ _ _ => by kernel_rfl
theorem fa_89_0 : ∀ (b off : Nat) (w : World), (Instr.fieldAt 89 (.pointer (some ⟨b, off, none⟩)) 0).run Try.prog w = .ok (.pointer (some ⟨b, off + 0, none⟩)) w := fun _ _ _ => by kernel_rfl
theorem fa_89_1 : ∀ (b off : Nat) (w : World), (Instr.fieldAt 89 (.pointer (some ⟨b, off, none⟩)) 1).run Try.prog w = .ok (.pointer (some ⟨b, off + 1, none⟩)) w := fun _ _ _ => by kernel_rfl
theorem fa_117_0 : ∀ (b off : Nat) (w : World), (Instr.fieldAt 117 (.pointer (some ⟨b, off, none⟩)) 0).run Try.prog w = .ok (.pointer (some ⟨b, off + 0, none⟩)) w := fun _ _ _ => by kernel_rfl
theorem fa_117_1 : ∀ (b off : Nat) (w : World), (Instr.fieldAt 117 (.pointer (some ⟨b, off, none⟩)) 1).run Try.prog w = .ok (.pointer (some ⟨b, off + 1, none⟩)) w := fun _ _ _ => by kernel_rfl
theorem fa_146_0 : ∀ (b off : Nat) (w : World), (Instr.fieldAt 146 (.pointer (some ⟨b, off, none⟩)) 0).run Try.prog w = .ok (.pointer (some ⟨b, off + 0, none⟩)) w := fun _ _ _ => by kernel_rfl
theorem fa_146_1 : ∀ (b off : Nat) (w : World), (Instr.fieldAt 146 (.pointer (some ⟨b, off, none⟩)) 1).run Try.prog w = .ok (.pointer (some ⟨b, off + 1, none⟩)) w := fun _ _ _ => by kernel_rfl
theorem sz_3 : ∀ w : World, (sizeOf 3).run Try.prog w = .ok 1 w := fun _ => by kernel_rfl
theorem sz_4 : ∀ w : World, (sizeOf 4).run Try.prog w = .ok 1 w := fun _ => by kernel_rfl
theorem sz_5 : ∀ w : World, (sizeOf 5).run Try.prog w = .ok 1 w := fun _ => by kernel_rfl
theorem sz_22 : ∀ w : World, (sizeOf 22).run Try.prog w = .ok 1 w := fun _ => by kernel_rfl
theorem sz_23 : ∀ w : World, (sizeOf 23).run Try.prog w = .ok 1 w := fun _ => by kernel_rfl
theorem sz_25 : ∀ w : World, (sizeOf 25).run Try.prog w = .ok 3 w := fun _ => by kernel_rfl
theorem sz_26 : ∀ w : World, (sizeOf 26).run Try.prog w = .ok 1 w := fun _ => by kernel_rfl
theorem sz_35 : ∀ w : World, (sizeOf 35).run Try.prog w = .ok 1 w := fun _ => by kernel_rfl
theorem sz_41 : ∀ w : World, (sizeOf 41).run Try.prog w = .ok 1 w := fun _ => by kernel_rfl
theorem sz_42 : ∀ w : World, (sizeOf 42).run Try.prog w = .ok 2 w := fun _ => by kernel_rfl
theorem sz_45 : ∀ w : World, (sizeOf 45).run Try.prog w = .ok 1 w := fun _ => by kernel_rfl
theorem sz_56 : ∀ w : World, (sizeOf 56).run Try.prog w = .ok 6 w := fun _ => by kernel_rfl
theorem sz_58 : ∀ w : World, (sizeOf 58).run Try.prog w = .ok 8 w := fun _ => by kernel_rfl
theorem sz_63 : ∀ w : World, (sizeOf 63).run Try.prog w = .ok 1 w := fun _ => by kernel_rfl
theorem sz_66 : ∀ w : World, (sizeOf 66).run Try.prog w = .ok 1 w := fun _ => by kernel_rfl
theorem sz_77 : ∀ w : World, (sizeOf 77).run Try.prog w = .ok 4 w := fun _ => by kernel_rfl
theorem sz_80 : ∀ w : World, (sizeOf 80).run Try.prog w = .ok 2 w := fun _ => by kernel_rfl
theorem sz_89 : ∀ w : World, (sizeOf 89).run Try.prog w = .ok 2 w := fun _ => by kernel_rfl
theorem sz_90 : ∀ w : World, (sizeOf 90).run Try.prog w = .ok 4 w := fun _ => by kernel_rfl
theorem sz_101 : ∀ w : World, (sizeOf 101).run Try.prog w = .ok 1 w := fun _ => by kernel_rfl
theorem sz_102 : ∀ w : World, (sizeOf 102).run Try.prog w = .ok 1 w := fun _ => by kernel_rfl
theorem sz_111 : ∀ w : World, (sizeOf 111).run Try.prog w = .ok 1 w := fun _ => by kernel_rfl
theorem sz_115 : ∀ w : World, (sizeOf 115).run Try.prog w = .ok 1 w := fun _ => by kernel_rfl
theorem sz_136 : ∀ w : World, (sizeOf 136).run Try.prog w = .ok 1 w := fun _ => by kernel_rfl
theorem sz_144 : ∀ w : World, (sizeOf 144).run Try.prog w = .ok 1 w := fun _ => by kernel_rfl
theorem sz_146 : ∀ w : World, (sizeOf 146).run Try.prog w = .ok 2 w := fun _ => by kernel_rfl
theorem ag_3 : ∀ w : World, (isAgg 3).run Try.prog w = .ok false w := fun _ => by kernel_rfl
theorem ag_4 : ∀ w : World, (isAgg 4).run Try.prog w = .ok false w := fun _ => by kernel_rfl
theorem ag_5 : ∀ w : World, (isAgg 5).run Try.prog w = .ok false w := fun _ => by kernel_rfl
theorem ag_22 : ∀ w : World, (isAgg 22).run Try.prog w = .ok false w := fun _ => by kernel_rfl
theorem ag_23 : ∀ w : World, (isAgg 23).run Try.prog w = .ok false w := fun _ => by kernel_rfl
theorem ag_25 : ∀ w : World, (isAgg 25).run Try.prog w = .ok true w := fun _ => by kernel_rfl
theorem ag_26 : ∀ w : World, (isAgg 26).run Try.prog w = .ok false w := fun _ => by kernel_rfl
theorem ag_35 : ∀ w : World, (isAgg 35).run Try.prog w = .ok false w := fun _ => by kernel_rfl
theorem ag_41 : ∀ w : World, (isAgg 41).run Try.prog w = .ok false w := fun _ => by kernel_rfl
theorem ag_42 : ∀ w : World, (isAgg 42).run Try.prog w = .ok true w := fun _ => by kernel_rfl
theorem ag_45 : ∀ w : World, (isAgg 45).run Try.prog w = .ok false w := fun _ => by kernel_rfl
theorem ag_56 : ∀ w : World, (isAgg 56).run Try.prog w = .ok true w := fun _ => by kernel_rfl
theorem ag_58 : ∀ w : World, (isAgg 58).run Try.prog w = .ok true w := fun _ => by kernel_rfl
theorem ag_63 : ∀ w : World, (isAgg 63).run Try.prog w = .ok false w := fun _ => by kernel_rfl
theorem ag_66 : ∀ w : World, (isAgg 66).run Try.prog w = .ok false w := fun _ => by kernel_rfl
theorem ag_77 : ∀ w : World, (isAgg 77).run Try.prog w = .ok true w := fun _ => by kernel_rfl
theorem ag_89 : ∀ w : World, (isAgg 89).run Try.prog w = .ok true w := fun _ => by kernel_rfl
theorem ag_90 : ∀ w : World, (isAgg 90).run Try.prog w = .ok true w := fun _ => by kernel_rfl
theorem ag_101 : ∀ w : World, (isAgg 101).run Try.prog w = .ok false w := fun _ => by kernel_rfl
theorem ag_102 : ∀ w : World, (isAgg 102).run Try.prog w = .ok false w := fun _ => by kernel_rfl
theorem ag_111 : ∀ w : World, (isAgg 111).run Try.prog w = .ok false w := fun _ => by kernel_rfl
theorem ag_115 : ∀ w : World, (isAgg 115).run Try.prog w = .ok false w := fun _ => by kernel_rfl
theorem ag_136 : ∀ w : World, (isAgg 136).run Try.prog w = .ok false w := fun _ => by kernel_rfl
theorem ag_144 : ∀ w : World, (isAgg 144).run Try.prog w = .ok false w := fun _ => by kernel_rfl
theorem ag_146 : ∀ w : World, (isAgg 146).run Try.prog w = .ok true w := fun _ => by kernel_rfl
theorem zv_4 : ∀ w : World, (zeroValue 4).run Try.prog w = .ok (.bool false) w := fun _ => by kernel_rfl
theorem zv_25 : ∀ w : World, (zeroValue 25).run Try.prog w = .ok (.agg #[.int .i64 0, .slice none 0 0, .slice none 0 0]) w := fun _ => by kernel_rfl
theorem zv_35 : ∀ w : World, (zeroValue 35).run Try.prog w = .ok (.slice none 0 0) w := fun _ => by kernel_rfl
theorem zv_42 : ∀ w : World, (zeroValue 42).run Try.prog w = .ok (.agg #[.int .i64 0, .int .i64 0]) w := fun _ => by kernel_rfl
theorem zv_56 : ∀ w : World, (zeroValue 56).run Try.prog w = .ok (.agg #[.int .i64 0, .int .i64 0, .int .i64 0, .int .i64 0, .int .i64 0, .int .i64 0]) w := fun _ => by kernel_rfl
theorem zv_58 : ∀ w : World, (zeroValue 58).run Try.prog w = .ok (.agg #[.int .i64 0, .int .i64 0, .int .i64 0, .int .i64 0, .int .i64 0, .int .i64 0, .int .i64 0, .int .i64 0]) w := fun _ => by kernel_rfl
theorem zv_66 : ∀ w : World, (zeroValue 66).run Try.prog w = .ok (.map none) w := fun _ => by kernel_rfl
theorem zv_77 : ∀ w : World, (zeroValue 77).run Try.prog w = .ok (.agg #[.int .i64 0, .slice none 0 0, .slice none 0 0, .slice none 0 0]) w := fun _ => by kernel_rfl
theorem zv_89 : ∀ w : World, (zeroValue 89).run Try.prog w = .ok (.agg #[.int .i64 0, .int .i64 0]) w := fun _ => by kernel_rfl
theorem zv_90 : ∀ w : World, (zeroValue 90).run Try.prog w = .ok (.agg #[.int .i64 0, .int .i64 0, .int .i64 0, .int .i64 0]) w := fun _ => by kernel_rfl
theorem zv_101 : ∀ w : World, (zeroValue 101).run Try.prog w = .ok (.map none) w := fun _ => by kernel_rfl
theorem zv_102 : ∀ w : World, (zeroValue 102).run Try.prog w = .ok (.nilFunc) w := fun _ => by kernel_rfl
theorem zv_146 : ∀ w : World, (zeroValue 146).run Try.prog w = .ok (.agg #[.nilFunc, .nilFunc]) w := fun _ => by kernel_rfl
theorem ia_42_0 : ∀ (b off : Nat) (w : World), (Instr.indexAt 42 (.pointer (some ⟨b, off, none⟩)) (.int .i64 0)).run Try.prog w = .ok (.pointer (some ⟨b, off + 0, none⟩)) w := fun _ _ _ => by kernel_rfl
theorem ia_42_1 : ∀ (b off : Nat) (w : World), (Instr.indexAt 42 (.pointer (some ⟨b, off, none⟩)) (.int .i64 1)).run Try.prog w = .ok (.pointer (some ⟨b, off + 1, none⟩)) w := fun _ _ _ => by kernel_rfl
theorem ia_90_0 : ∀ (b off : Nat) (w : World), (Instr.indexAt 90 (.pointer (some ⟨b, off, none⟩)) (.int .i64 0)).run Try.prog w = .ok (.pointer (some ⟨b, off + 0, none⟩)) w := fun _ _ _ => by kernel_rfl
theorem ia_90_1 : ∀ (b off : Nat) (w : World), (Instr.indexAt 90 (.pointer (some ⟨b, off, none⟩)) (.int .i64 1)).run Try.prog w = .ok (.pointer (some ⟨b, off + 2, none⟩)) w := fun _ _ _ => by kernel_rfl
theorem fv_58_3 : ∀ (a0 a1 a2 a3 a4 a5 a6 a7 : Value) (w : World), (Instr.field 58 (.agg #[a0, a1, a2, a3, a4, a5, a6, a7]) 3).run Try.prog w = .ok (a3) w := fun _ _ _ _ _ _ _ _ _ => by kernel_rfl
theorem ix_42_0 : ∀ (a0 a1 : Value) (w : World), (Instr.index 42 (.agg #[a0, a1]) (.int .i64 0)).run Try.prog w = .ok (a0) w := fun _ _ _ => by kernel_rfl
theorem ix_42_1 : ∀ (a0 a1 : Value) (w : World), (Instr.index 42 (.agg #[a0, a1]) (.int .i64 1)).run Try.prog w = .ok (a1) w := fun _ _ _ => by kernel_rfl
theorem cf_13 : ∀ (args : Array Value) (w : World), (callFunc 13 args).run Try.prog w = .ok (.enter 13 args) w := fun _ _ => by kernel_rfl
theorem cf_14 : ∀ (args : Array Value) (w : World), (callFunc 14 args).run Try.prog w = .ok (.enter 14 args) w := fun _ _ => by kernel_rfl
theorem cf_15 : ∀ (args : Array Value) (w : World), (callFunc 15 args).run Try.prog w = .ok (.enter 15 args) w := fun _ _ => by kernel_rfl
theorem cf_16 : ∀ (args : Array Value) (w : World), (callFunc 16 args).run Try.prog w = .ok (.enter 16 args) w := fun _ _ => by kernel_rfl
theorem cf_17 : ∀ (args : Array Value) (w : World), (callFunc 17 args).run Try.prog w = .ok (.enter 17 args) w := fun _ _ => by kernel_rfl
theorem cf_18 : ∀ (args : Array Value) (w : World), (callFunc 18 args).run Try.prog w = .ok (.enter 18 args) w := fun _ _ => by kernel_rfl
theorem cf_19 : ∀ (args : Array Value) (w : World), (callFunc 19 args).run Try.prog w = .ok (.enter 19 args) w := fun _ _ => by kernel_rfl
theorem cf_20 : ∀ (args : Array Value) (w : World), (callFunc 20 args).run Try.prog w = .ok (.enter 20 args) w := fun _ _ => by kernel_rfl
theorem cf_21 : ∀ (args : Array Value) (w : World), (callFunc 21 args).run Try.prog w = .ok (.enter 21 args) w := fun _ _ => by kernel_rfl
theorem cf_22 : ∀ (args : Array Value) (w : World), (callFunc 22 args).run Try.prog w = .ok (.enter 22 args) w := fun _ _ => by kernel_rfl
theorem cf_23 : ∀ (args : Array Value) (w : World), (callFunc 23 args).run Try.prog w = .ok (.enter 23 args) w := fun _ _ => by kernel_rfl
theorem cf_24 : ∀ (args : Array Value) (w : World), (callFunc 24 args).run Try.prog w = .ok (.enter 24 args) w := fun _ _ => by kernel_rfl
theorem cf_25 : ∀ (args : Array Value) (w : World), (callFunc 25 args).run Try.prog w = .ok (.enter 25 args) w := fun _ _ => by kernel_rfl
theorem cf_26 : ∀ (args : Array Value) (w : World), (callFunc 26 args).run Try.prog w = .ok (.enter 26 args) w := fun _ _ => by kernel_rfl
theorem cf_27 : ∀ (args : Array Value) (w : World), (callFunc 27 args).run Try.prog w = .ok (.enter 27 args) w := fun _ _ => by kernel_rfl
theorem cf_28 : ∀ (args : Array Value) (w : World), (callFunc 28 args).run Try.prog w = .ok (.enter 28 args) w := fun _ _ => by kernel_rfl
theorem cf_29 : ∀ (args : Array Value) (w : World), (callFunc 29 args).run Try.prog w = .ok (.enter 29 args) w := fun _ _ => by kernel_rfl
theorem cf_30 : ∀ (args : Array Value) (w : World), (callFunc 30 args).run Try.prog w = .ok (.enter 30 args) w := fun _ _ => by kernel_rfl
theorem cf_31 : ∀ (args : Array Value) (w : World), (callFunc 31 args).run Try.prog w = .ok (.enter 31 args) w := fun _ _ => by kernel_rfl
theorem cf_32 : ∀ (args : Array Value) (w : World), (callFunc 32 args).run Try.prog w = .ok (.enter 32 args) w := fun _ _ => by kernel_rfl
theorem cf_33 : ∀ (args : Array Value) (w : World), (callFunc 33 args).run Try.prog w = .ok (.enter 33 args) w := fun _ _ => by kernel_rfl
theorem cf_34 : ∀ (args : Array Value) (w : World), (callFunc 34 args).run Try.prog w = .ok (.enter 34 args) w := fun _ _ => by kernel_rfl
theorem cf_35 : ∀ (args : Array Value) (w : World), (callFunc 35 args).run Try.prog w = .ok (.enter 35 args) w := fun _ _ => by kernel_rfl
theorem cf_36 : ∀ (args : Array Value) (w : World), (callFunc 36 args).run Try.prog w = .ok (.enter 36 args) w := fun _ _ => by kernel_rfl
theorem cf_37 : ∀ (args : Array Value) (w : World), (callFunc 37 args).run Try.prog w = .ok (.enter 37 args) w := fun _ _ => by kernel_rfl
theorem cf_38 : ∀ (args : Array Value) (w : World), (callFunc 38 args).run Try.prog w = .ok (.enter 38 args) w := fun _ _ => by kernel_rfl
theorem cf_39 : ∀ (args : Array Value) (w : World), (callFunc 39 args).run Try.prog w = .ok (.enter 39 args) w := fun _ _ => by kernel_rfl
theorem cf_40 : ∀ (args : Array Value) (w : World), (callFunc 40 args).run Try.prog w = .ok (.enter 40 args) w := fun _ _ => by kernel_rfl
theorem cf_41 : ∀ (args : Array Value) (w : World), (callFunc 41 args).run Try.prog w = .ok (.enter 41 args) w := fun _ _ => by kernel_rfl
theorem cf_42 : ∀ (args : Array Value) (w : World), (callFunc 42 args).run Try.prog w = .ok (.enter 42 args) w := fun _ _ => by kernel_rfl
theorem cf_43 : ∀ (args : Array Value) (w : World), (callFunc 43 args).run Try.prog w = .ok (.enter 43 args) w := fun _ _ => by kernel_rfl
theorem cf_44 : ∀ (args : Array Value) (w : World), (callFunc 44 args).run Try.prog w = .ok (.enter 44 args) w := fun _ _ => by kernel_rfl
theorem cf_45 : ∀ (args : Array Value) (w : World), (callFunc 45 args).run Try.prog w = .ok (.enter 45 args) w := fun _ _ => by kernel_rfl
theorem cf_46 : ∀ (args : Array Value) (w : World), (callFunc 46 args).run Try.prog w = .ok (.enter 46 args) w := fun _ _ => by kernel_rfl
theorem cf_47 : ∀ (args : Array Value) (w : World), (callFunc 47 args).run Try.prog w = .ok (.enter 47 args) w := fun _ _ => by kernel_rfl
theorem cf_48 : ∀ (args : Array Value) (w : World), (callFunc 48 args).run Try.prog w = .ok (.enter 48 args) w := fun _ _ => by kernel_rfl
theorem cf_49 : ∀ (args : Array Value) (w : World), (callFunc 49 args).run Try.prog w = .ok (.enter 49 args) w := fun _ _ => by kernel_rfl
theorem cf_50 : ∀ (args : Array Value) (w : World), (callFunc 50 args).run Try.prog w = .ok (.enter 50 args) w := fun _ _ => by kernel_rfl
theorem cf_51 : ∀ (args : Array Value) (w : World), (callFunc 51 args).run Try.prog w = .ok (.enter 51 args) w := fun _ _ => by kernel_rfl
theorem cf_52 : ∀ (args : Array Value) (w : World), (callFunc 52 args).run Try.prog w = .ok (.enter 52 args) w := fun _ _ => by kernel_rfl
theorem cf_53 : ∀ (args : Array Value) (w : World), (callFunc 53 args).run Try.prog w = .ok (.enter 53 args) w := fun _ _ => by kernel_rfl
theorem cf_54 : ∀ (args : Array Value) (w : World), (callFunc 54 args).run Try.prog w = .ok (.enter 54 args) w := fun _ _ => by kernel_rfl
theorem cf_55 : ∀ (args : Array Value) (w : World), (callFunc 55 args).run Try.prog w = .ok (.enter 55 args) w := fun _ _ => by kernel_rfl
theorem cf_56 : ∀ (args : Array Value) (w : World), (callFunc 56 args).run Try.prog w = .ok (.enter 56 args) w := fun _ _ => by kernel_rfl
theorem cf_57 : ∀ (args : Array Value) (w : World), (callFunc 57 args).run Try.prog w = .ok (.enter 57 args) w := fun _ _ => by kernel_rfl
theorem cf_58 : ∀ (args : Array Value) (w : World), (callFunc 58 args).run Try.prog w = .ok (.enter 58 args) w := fun _ _ => by kernel_rfl
theorem cf_59 : ∀ (args : Array Value) (w : World), (callFunc 59 args).run Try.prog w = .ok (.enter 59 args) w := fun _ _ => by kernel_rfl
theorem cf_60 : ∀ (args : Array Value) (w : World), (callFunc 60 args).run Try.prog w = .ok (.enter 60 args) w := fun _ _ => by kernel_rfl
theorem cf_61 : ∀ (args : Array Value) (w : World), (callFunc 61 args).run Try.prog w = .ok (.enter 61 args) w := fun _ _ => by kernel_rfl
theorem cf_62 : ∀ (args : Array Value) (w : World), (callFunc 62 args).run Try.prog w = .ok (.enter 62 args) w := fun _ _ => by kernel_rfl
theorem cf_63 : ∀ (args : Array Value) (w : World), (callFunc 63 args).run Try.prog w = .ok (.enter 63 args) w := fun _ _ => by kernel_rfl
theorem cf_64 : ∀ (args : Array Value) (w : World), (callFunc 64 args).run Try.prog w = .ok (.enter 64 args) w := fun _ _ => by kernel_rfl
theorem cf_65 : ∀ (args : Array Value) (w : World), (callFunc 65 args).run Try.prog w = .ok (.enter 65 args) w := fun _ _ => by kernel_rfl
theorem cf_66 : ∀ (args : Array Value) (w : World), (callFunc 66 args).run Try.prog w = .ok (.enter 66 args) w := fun _ _ => by kernel_rfl
theorem cf_68 : ∀ (args : Array Value) (w : World), (callFunc 68 args).run Try.prog w = .ok (.enter 68 args) w := fun _ _ => by kernel_rfl
theorem cf_69 : ∀ (args : Array Value) (w : World), (callFunc 69 args).run Try.prog w = .ok (.enter 69 args) w := fun _ _ => by kernel_rfl
theorem cf_70 : ∀ (args : Array Value) (w : World), (callFunc 70 args).run Try.prog w = .ok (.enter 70 args) w := fun _ _ => by kernel_rfl
theorem cf_71 : ∀ (args : Array Value) (w : World), (callFunc 71 args).run Try.prog w = .ok (.enter 71 args) w := fun _ _ => by kernel_rfl
theorem cf_72 : ∀ (args : Array Value) (w : World), (callFunc 72 args).run Try.prog w = .ok (.enter 72 args) w := fun _ _ => by kernel_rfl
theorem cf_73 : ∀ (args : Array Value) (w : World), (callFunc 73 args).run Try.prog w = .ok (.enter 73 args) w := fun _ _ => by kernel_rfl
theorem cf_74 : ∀ (args : Array Value) (w : World), (callFunc 74 args).run Try.prog w = .ok (.enter 74 args) w := fun _ _ => by kernel_rfl
theorem cf_75 : ∀ (args : Array Value) (w : World), (callFunc 75 args).run Try.prog w = .ok (.enter 75 args) w := fun _ _ => by kernel_rfl
theorem cf_76 : ∀ (args : Array Value) (w : World), (callFunc 76 args).run Try.prog w = .ok (.enter 76 args) w := fun _ _ => by kernel_rfl
theorem cf_77 : ∀ (args : Array Value) (w : World), (callFunc 77 args).run Try.prog w = .ok (.enter 77 args) w := fun _ _ => by kernel_rfl
theorem cf_78 : ∀ (args : Array Value) (w : World), (callFunc 78 args).run Try.prog w = .ok (.enter 78 args) w := fun _ _ => by kernel_rfl
theorem cf_79 : ∀ (args : Array Value) (w : World), (callFunc 79 args).run Try.prog w = .ok (.enter 79 args) w := fun _ _ => by kernel_rfl
theorem cf_80 : ∀ (args : Array Value) (w : World), (callFunc 80 args).run Try.prog w = .ok (.enter 80 args) w := fun _ _ => by kernel_rfl
theorem cf_81 : ∀ (args : Array Value) (w : World), (callFunc 81 args).run Try.prog w = .ok (.enter 81 args) w := fun _ _ => by kernel_rfl
theorem cf_82 : ∀ (args : Array Value) (w : World), (callFunc 82 args).run Try.prog w = .ok (.enter 82 args) w := fun _ _ => by kernel_rfl
theorem cf_83 : ∀ (args : Array Value) (w : World), (callFunc 83 args).run Try.prog w = .ok (.enter 83 args) w := fun _ _ => by kernel_rfl
theorem cf_84 : ∀ (args : Array Value) (w : World), (callFunc 84 args).run Try.prog w = .ok (.enter 84 args) w := fun _ _ => by kernel_rfl
theorem cf_85 : ∀ (args : Array Value) (w : World), (callFunc 85 args).run Try.prog w = .ok (.enter 85 args) w := fun _ _ => by kernel_rfl
theorem cf_86 : ∀ (args : Array Value) (w : World), (callFunc 86 args).run Try.prog w = .ok (.enter 86 args) w := fun _ _ => by kernel_rfl
theorem cf_87 : ∀ (args : Array Value) (w : World), (callFunc 87 args).run Try.prog w = .ok (.enter 87 args) w := fun _ _ => by kernel_rfl
theorem cf_88 : ∀ (args : Array Value) (w : World), (callFunc 88 args).run Try.prog w = .ok (.enter 88 args) w := fun _ _ => by kernel_rfl
theorem cf_89 : ∀ (args : Array Value) (w : World), (callFunc 89 args).run Try.prog w = .ok (.enter 89 args) w := fun _ _ => by kernel_rfl
theorem cf_90 : ∀ (args : Array Value) (w : World), (callFunc 90 args).run Try.prog w = .ok (.enter 90 args) w := fun _ _ => by kernel_rfl
theorem cf_91 : ∀ (args : Array Value) (w : World), (callFunc 91 args).run Try.prog w = .ok (.enter 91 args) w := fun _ _ => by kernel_rfl
theorem cf_93 : ∀ (args : Array Value) (w : World), (callFunc 93 args).run Try.prog w = .ok (.enter 93 args) w := fun _ _ => by kernel_rfl
theorem cf_94 : ∀ (args : Array Value) (w : World), (callFunc 94 args).run Try.prog w = .ok (.enter 94 args) w := fun _ _ => by kernel_rfl
theorem cf_95 : ∀ (args : Array Value) (w : World), (callFunc 95 args).run Try.prog w = .ok (.enter 95 args) w := fun _ _ => by kernel_rfl
theorem cf_96 : ∀ (args : Array Value) (w : World), (callFunc 96 args).run Try.prog w = .ok (.enter 96 args) w := fun _ _ => by kernel_rfl
theorem cf_97 : ∀ (args : Array Value) (w : World), (callFunc 97 args).run Try.prog w = .ok (.enter 97 args) w := fun _ _ => by kernel_rfl
theorem cf_98 : ∀ (args : Array Value) (w : World), (callFunc 98 args).run Try.prog w = .ok (.enter 98 args) w := fun _ _ => by kernel_rfl
theorem cf_99 : ∀ (args : Array Value) (w : World), (callFunc 99 args).run Try.prog w = .ok (.enter 99 args) w := fun _ _ => by kernel_rfl
theorem cf_100 : ∀ (args : Array Value) (w : World), (callFunc 100 args).run Try.prog w = .ok (.enter 100 args) w := fun _ _ => by kernel_rfl
theorem cf_101 : ∀ (args : Array Value) (w : World), (callFunc 101 args).run Try.prog w = .ok (.enter 101 args) w := fun _ _ => by kernel_rfl
theorem cf_102 : ∀ (args : Array Value) (w : World), (callFunc 102 args).run Try.prog w = .ok (.enter 102 args) w := fun _ _ => by kernel_rfl
theorem cf_103 : ∀ (args : Array Value) (w : World), (callFunc 103 args).run Try.prog w = .ok (.enter 103 args) w := fun _ _ => by kernel_rfl
theorem cf_104 : ∀ (args : Array Value) (w : World), (callFunc 104 args).run Try.prog w = .ok (.enter 104 args) w := fun _ _ => by kernel_rfl
theorem cf_105 : ∀ (args : Array Value) (w : World), (callFunc 105 args).run Try.prog w = .ok (.enter 105 args) w := fun _ _ => by kernel_rfl
theorem cf_106 : ∀ (args : Array Value) (w : World), (callFunc 106 args).run Try.prog w = .ok (.enter 106 args) w := fun _ _ => by kernel_rfl
theorem cf_107 : ∀ (args : Array Value) (w : World), (callFunc 107 args).run Try.prog w = .ok (.enter 107 args) w := fun _ _ => by kernel_rfl
theorem cf_108 : ∀ (args : Array Value) (w : World), (callFunc 108 args).run Try.prog w = .ok (.enter 108 args) w := fun _ _ => by kernel_rfl
theorem cf_109 : ∀ (args : Array Value) (w : World), (callFunc 109 args).run Try.prog w = .ok (.enter 109 args) w := fun _ _ => by kernel_rfl
theorem cf_110 : ∀ (args : Array Value) (w : World), (callFunc 110 args).run Try.prog w = .ok (.enter 110 args) w := fun _ _ => by kernel_rfl
theorem cf_111 : ∀ (args : Array Value) (w : World), (callFunc 111 args).run Try.prog w = .ok (.enter 111 args) w := fun _ _ => by kernel_rfl
end Go.Proofs.Ytlfbbofcnonhdaa
