import Derived.Test.YtjkolebffbeeeaaGreatDoorProg
import Derived.Test.YtjkolebffbeeeaaGreatDoorG4
/- Closed facts of the program, as instances. -/
namespace Go.Proofs.YtjkolebffbeeeaaGreatDoor
open Go Go.RowKit Go.Proofs

instance : Und Tryz.prog 3 (.int .i64) := ⟨by kernel_rfl⟩
instance : Und Tryz.prog 4 .bool := ⟨by kernel_rfl⟩
instance : Und Tryz.prog 5 (.int .u8) := ⟨by kernel_rfl⟩
instance : Und Tryz.prog 9 .string := ⟨by kernel_rfl⟩
instance : Und Tryz.prog 21 (.int .i32) := ⟨by kernel_rfl⟩
instance : Und Tryz.prog 22 (.slice 40) := ⟨by kernel_rfl⟩
instance : Und Tryz.prog 23 (.slice 9) := ⟨by kernel_rfl⟩
instance : Und Tryz.prog 24 (.slice 3) := ⟨by kernel_rfl⟩
instance : Und Tryz.prog 52 (.array 2 3) := ⟨by kernel_rfl⟩
instance : Und Tryz.prog 68 (.map 9 4) := ⟨by kernel_rfl⟩
instance : Und Tryz.prog 69 (.map 9 3) := ⟨by kernel_rfl⟩
instance : Und Tryz.prog 115 (.map 3 4) := ⟨by kernel_rfl⟩
instance : Siz Tryz.prog 3 1 := ⟨fun _ => by kernel_rfl⟩
instance : Siz Tryz.prog 4 1 := ⟨fun _ => by kernel_rfl⟩
instance : Siz Tryz.prog 9 1 := ⟨fun _ => by kernel_rfl⟩
instance : Siz Tryz.prog 22 1 := ⟨fun _ => by kernel_rfl⟩
instance : Siz Tryz.prog 23 1 := ⟨fun _ => by kernel_rfl⟩
instance : Siz Tryz.prog 24 1 := ⟨fun _ => by kernel_rfl⟩
instance : Siz Tryz.prog 27 1 := ⟨fun _ => by kernel_rfl⟩
instance : Siz Tryz.prog 40 6 := ⟨fun _ => by kernel_rfl⟩
instance : Siz Tryz.prog 60 1 := ⟨fun _ => by kernel_rfl⟩
instance : Siz Tryz.prog 61 1 := ⟨fun _ => by kernel_rfl⟩
instance : Siz Tryz.prog 68 1 := ⟨fun _ => by kernel_rfl⟩
instance : Siz Tryz.prog 69 1 := ⟨fun _ => by kernel_rfl⟩
instance : Siz Tryz.prog 77 2 := ⟨fun _ => by kernel_rfl⟩
instance : Siz Tryz.prog 101 2 := ⟨fun _ => by kernel_rfl⟩
instance : Siz Tryz.prog 115 1 := ⟨fun _ => by kernel_rfl⟩
instance : Siz Tryz.prog 116 1 := ⟨fun _ => by kernel_rfl⟩
instance : Siz Tryz.prog 123 256 := ⟨fun _ => by kernel_rfl⟩
instance : Agg Tryz.prog 3 false := ⟨fun _ => by kernel_rfl⟩
instance : Agg Tryz.prog 4 false := ⟨fun _ => by kernel_rfl⟩
instance : Agg Tryz.prog 9 false := ⟨fun _ => by kernel_rfl⟩
instance : Agg Tryz.prog 22 false := ⟨fun _ => by kernel_rfl⟩
instance : Agg Tryz.prog 23 false := ⟨fun _ => by kernel_rfl⟩
instance : Agg Tryz.prog 24 false := ⟨fun _ => by kernel_rfl⟩
instance : Agg Tryz.prog 27 false := ⟨fun _ => by kernel_rfl⟩
instance : Agg Tryz.prog 40 true := ⟨fun _ => by kernel_rfl⟩
instance : Agg Tryz.prog 60 false := ⟨fun _ => by kernel_rfl⟩
instance : Agg Tryz.prog 61 false := ⟨fun _ => by kernel_rfl⟩
instance : Agg Tryz.prog 68 false := ⟨fun _ => by kernel_rfl⟩
instance : Agg Tryz.prog 69 false := ⟨fun _ => by kernel_rfl⟩
instance : Agg Tryz.prog 77 true := ⟨fun _ => by kernel_rfl⟩
instance : Agg Tryz.prog 115 false := ⟨fun _ => by kernel_rfl⟩
instance : Agg Tryz.prog 116 false := ⟨fun _ => by kernel_rfl⟩
instance : Zer Tryz.prog 3 (.int .i64 0) := ⟨fun _ => by kernel_rfl⟩
instance : Zer Tryz.prog 4 (.bool false) := ⟨fun _ => by kernel_rfl⟩
instance : Zer Tryz.prog 9 (.string ⟨#[]⟩) := ⟨fun _ => by kernel_rfl⟩
instance : Zer Tryz.prog 23 (.slice none 0 0) := ⟨fun _ => by kernel_rfl⟩
instance : Zer Tryz.prog 24 (.slice none 0 0) := ⟨fun _ => by kernel_rfl⟩
instance : Zer Tryz.prog 27 (.int .i64 0) := ⟨fun _ => by kernel_rfl⟩
instance : Zer Tryz.prog 40 (.agg #[.string ⟨#[]⟩, .int .i64 0, .int .i64 0, .slice none 0 0, .slice none 0 0, .string ⟨#[]⟩]) := ⟨fun _ => by kernel_rfl⟩
instance : Zer Tryz.prog 60 (.pointer none) := ⟨fun _ => by kernel_rfl⟩
instance : Zer Tryz.prog 68 (.map none) := ⟨fun _ => by kernel_rfl⟩
instance : Zer Tryz.prog 77 (.agg #[.slice none 0 0, .slice none 0 0]) := ⟨fun _ => by kernel_rfl⟩
instance : Zer Tryz.prog 82 (.agg #[.pointer none, .slice none 0 0]) := ⟨fun _ => by kernel_rfl⟩
instance : Zer Tryz.prog 101 (.agg #[.int .i64 0, .int .i64 0]) := ⟨fun _ => by kernel_rfl⟩
instance : Zer Tryz.prog 115 (.map none) := ⟨fun _ => by kernel_rfl⟩
instance : Zer Tryz.prog 116 (.nilFunc) := ⟨fun _ => by kernel_rfl⟩
instance : Zer Tryz.prog 123 (.agg #[.bool false, .bool false, .bool false, .bool false, .bool false, .bool false, .bool false, .bool false, .bool false, .bool false, .bool false, .bool false, .bool false, .bool false, .bool false, .bool false, .bool false, .bool false, .bool false, .bool false, .bool false, .bool false, .bool false, .bool false, .bool false, .bool false, .bool false, .bool false, .bool false, .bool false, .bool false, .bool false, .bool false, .bool false, .bool false, .bool false, .bool false, .bool false, .bool false, .bool false, .bool false, .bool false, .bool false, .bool false, .bool false, .bool false, .bool false, .bool false, .bool false, .bool false, .bool false, .bool false, .bool false, .bool false, .bool false, .bool false, .bool false, .bool false, .bool false, .bool false, .bool false, .bool false, .bool false, .bool false, .bool false, .bool false, .bool false, .bool false, .bool false, .bool false, .bool false, .bool false, .bool false, .bool false, .bool false, .bool false, .bool false, .bool false, .bool false, .bool false, .bool false, .bool false, .bool false, .bool false, .bool false, .bool false, .bool false, .bool false, .bool false, .bool false, .bool false, .bool false, .bool false, .bool false, .bool false, .bool false, .bool false, .bool false, .bool false, .bool false, .bool false, .bool false, .bool false, .bool false, .bool false, .bool false, .bool false, .bool false, .bool false, .bool false, .bool false, .bool false, .bool false, .bool false, .bool false, .bool false, .bool false, .bool false, .bool false, .bool false, .bool false, .bool false, .bool false, .bool false, .bool false, .bool false, .bool false, .bool false, .bool false, .bool false, .bool false, .bool false, .bool false, .bool false, .bool false, .bool false, .bool false, .bool false, .bool false, .bool false, .bool false, .bool false, .bool false, .bool false, .bool false, .bool false, .bool false, .bool false, .bool false, .bool false, .bool false, .bool false, .bool false, .bool false, .bool false, .bool false, .bool false, .bool false, .bool false, .bool false, .bool false, .bool false, .bool false, .bool false, .bool false, .bool false, .bool false, .bool false, .bool false, .bool false, .bool false, .bool false, .bool false, .bool false, .bool false, .bool false, .bool false, .bool false, .bool false, .bool false, .bool false, .bool false, .bool false, .bool false, .bool false, .bool false, .bool false, .bool false, .bool false, .bool false, .bool false, .bool false, .bool false, .bool false, .bool false, .bool false, .bool false, .bool false, .bool false, .bool false, .bool false, .bool false, .bool false, .bool false, .bool false, .bool false, .bool false, .bool false, .bool false, .bool false, .bool false, .bool false, .bool false, .bool false, .bool false, .bool false, .bool false, .bool false, .bool false, .bool false, .bool false, .bool false, .bool false, .bool false, .bool false, .bool false, .bool false, .bool false, .bool false, .bool false, .bool false, .bool false, .bool false, .bool false, .bool false, .bool false, .bool false, .bool false, .bool false, .bool false, .bool false, .bool false, .bool false, .bool false, .bool false, .bool false, .bool false, .bool false, .bool false, .bool false, .bool false, .bool false, .bool false, .bool false, .bool false, .bool false]) := ⟨fun _ => by kernel_rfl⟩
instance : Fof Tryz.prog 40 0 0 := ⟨fun _ _ _ => by kernel_rfl⟩
instance : Fof Tryz.prog 40 1 1 := ⟨fun _ _ _ => by kernel_rfl⟩
instance : Fof Tryz.prog 40 2 2 := ⟨fun _ _ _ => by kernel_rfl⟩
instance : Fof Tryz.prog 40 3 3 := ⟨fun _ _ _ => by kernel_rfl⟩
instance : Fof Tryz.prog 40 4 4 := ⟨fun _ _ _ => by kernel_rfl⟩
instance : Fof Tryz.prog 40 5 5 := ⟨fun _ _ _ => by kernel_rfl⟩
instance : Fof Tryz.prog 71 0 0 := ⟨fun _ _ _ => by kernel_rfl⟩
instance : Fof Tryz.prog 71 1 1 := ⟨fun _ _ _ => by kernel_rfl⟩
instance : Fof Tryz.prog 71 2 2 := ⟨fun _ _ _ => by kernel_rfl⟩
instance : Fof Tryz.prog 71 3 3 := ⟨fun _ _ _ => by kernel_rfl⟩
instance : Fof Tryz.prog 71 4 4 := ⟨fun _ _ _ => by kernel_rfl⟩
instance : Fof Tryz.prog 71 5 5 := ⟨fun _ _ _ => by kernel_rfl⟩
instance : Fof Tryz.prog 77 0 0 := ⟨fun _ _ _ => by kernel_rfl⟩
instance : Fof Tryz.prog 77 1 1 := ⟨fun _ _ _ => by kernel_rfl⟩
instance : Fof Tryz.prog 84 0 0 := ⟨fun _ _ _ => by kernel_rfl⟩
instance : Fof Tryz.prog 84 1 1 := ⟨fun _ _ _ => by kernel_rfl⟩
instance : Fof Tryz.prog 84 2 2 := ⟨fun _ _ _ => by kernel_rfl⟩
instance : Fof Tryz.prog 101 0 0 := ⟨fun _ _ _ => by kernel_rfl⟩
instance : Fof Tryz.prog 101 1 1 := ⟨fun _ _ _ => by kernel_rfl⟩
instance : Inf Tryz.prog 3 (.int .i64 0) 1 8 := ⟨by kernel_rfl⟩
instance : Inf Tryz.prog 9 (.string ⟨#[]⟩) 1 16 := ⟨by kernel_rfl⟩
instance : Inf Tryz.prog 40 (.agg #[.string ⟨#[]⟩, .int .i64 0, .int .i64 0, .slice none 0 0, .slice none 0 0, .string ⟨#[]⟩]) 6 96 := ⟨by kernel_rfl⟩
instance : Cf Tryz.prog 10 := ⟨fun _ _ => by kernel_rfl⟩
instance : Cf Tryz.prog 11 := ⟨fun _ _ => by kernel_rfl⟩
instance : Cf Tryz.prog 12 := ⟨fun _ _ => by kernel_rfl⟩
instance : Cf Tryz.prog 13 := ⟨fun _ _ => by kernel_rfl⟩
instance : Cf Tryz.prog 14 := ⟨fun _ _ => by kernel_rfl⟩
instance : Cf Tryz.prog 15 := ⟨fun _ _ => by kernel_rfl⟩
instance : Cf Tryz.prog 16 := ⟨fun _ _ => by kernel_rfl⟩
instance : Cf Tryz.prog 17 := ⟨fun _ _ => by kernel_rfl⟩
instance : Cf Tryz.prog 18 := ⟨fun _ _ => by kernel_rfl⟩
instance : Cf Tryz.prog 19 := ⟨fun _ _ => by kernel_rfl⟩
instance : Cf Tryz.prog 20 := ⟨fun _ _ => by kernel_rfl⟩
instance : Cf Tryz.prog 21 := ⟨fun _ _ => by kernel_rfl⟩
instance : Cf Tryz.prog 22 := ⟨fun _ _ => by kernel_rfl⟩
instance : Cf Tryz.prog 23 := ⟨fun _ _ => by kernel_rfl⟩
instance : Cf Tryz.prog 24 := ⟨fun _ _ => by kernel_rfl⟩
instance : Cf Tryz.prog 25 := ⟨fun _ _ => by kernel_rfl⟩
instance : Cf Tryz.prog 26 := ⟨fun _ _ => by kernel_rfl⟩
instance : Cf Tryz.prog 27 := ⟨fun _ _ => by kernel_rfl⟩
instance : Cf Tryz.prog 28 := ⟨fun _ _ => by kernel_rfl⟩
instance : Cf Tryz.prog 29 := ⟨fun _ _ => by kernel_rfl⟩
instance : Cf Tryz.prog 30 := ⟨fun _ _ => by kernel_rfl⟩
instance : Cf Tryz.prog 31 := ⟨fun _ _ => by kernel_rfl⟩
instance : Cf Tryz.prog 32 := ⟨fun _ _ => by kernel_rfl⟩
instance : Cf Tryz.prog 33 := ⟨fun _ _ => by kernel_rfl⟩
instance : Cf Tryz.prog 34 := ⟨fun _ _ => by kernel_rfl⟩
instance : Cf Tryz.prog 35 := ⟨fun _ _ => by kernel_rfl⟩
instance : Cf Tryz.prog 36 := ⟨fun _ _ => by kernel_rfl⟩
instance : Cf Tryz.prog 37 := ⟨fun _ _ => by kernel_rfl⟩
instance : Cf Tryz.prog 38 := ⟨fun _ _ => by kernel_rfl⟩
instance : Cf Tryz.prog 39 := ⟨fun _ _ => by kernel_rfl⟩
instance : Cf Tryz.prog 40 := ⟨fun _ _ => by kernel_rfl⟩
instance : Cf Tryz.prog 41 := ⟨fun _ _ => by kernel_rfl⟩
instance : Cf Tryz.prog 42 := ⟨fun _ _ => by kernel_rfl⟩
instance : Cf Tryz.prog 43 := ⟨fun _ _ => by kernel_rfl⟩
instance : Cf Tryz.prog 44 := ⟨fun _ _ => by kernel_rfl⟩
instance : Cf Tryz.prog 45 := ⟨fun _ _ => by kernel_rfl⟩
instance : Cf Tryz.prog 46 := ⟨fun _ _ => by kernel_rfl⟩
instance : Cf Tryz.prog 47 := ⟨fun _ _ => by kernel_rfl⟩
instance : Cf Tryz.prog 48 := ⟨fun _ _ => by kernel_rfl⟩
instance : Cf Tryz.prog 49 := ⟨fun _ _ => by kernel_rfl⟩
instance : Cf Tryz.prog 50 := ⟨fun _ _ => by kernel_rfl⟩
instance : Cf Tryz.prog 51 := ⟨fun _ _ => by kernel_rfl⟩
instance : Cf Tryz.prog 52 := ⟨fun _ _ => by kernel_rfl⟩
instance : Cf Tryz.prog 53 := ⟨fun _ _ => by kernel_rfl⟩
instance : Cf Tryz.prog 54 := ⟨fun _ _ => by kernel_rfl⟩
instance : Cf Tryz.prog 55 := ⟨fun _ _ => by kernel_rfl⟩
instance : Cf Tryz.prog 56 := ⟨fun _ _ => by kernel_rfl⟩
instance : Cf Tryz.prog 57 := ⟨fun _ _ => by kernel_rfl⟩
instance : Cf Tryz.prog 58 := ⟨fun _ _ => by kernel_rfl⟩
instance : Cf Tryz.prog 59 := ⟨fun _ _ => by kernel_rfl⟩
instance : Cf Tryz.prog 60 := ⟨fun _ _ => by kernel_rfl⟩
instance : Cf Tryz.prog 61 := ⟨fun _ _ => by kernel_rfl⟩
instance : Cf Tryz.prog 62 := ⟨fun _ _ => by kernel_rfl⟩
instance : Cf Tryz.prog 63 := ⟨fun _ _ => by kernel_rfl⟩
instance : Cf Tryz.prog 64 := ⟨fun _ _ => by kernel_rfl⟩
instance : Cf Tryz.prog 65 := ⟨fun _ _ => by kernel_rfl⟩
instance : Cf Tryz.prog 66 := ⟨fun _ _ => by kernel_rfl⟩
instance : Cf Tryz.prog 67 := ⟨fun _ _ => by kernel_rfl⟩
instance : Cf Tryz.prog 68 := ⟨fun _ _ => by kernel_rfl⟩
instance : Cf Tryz.prog 69 := ⟨fun _ _ => by kernel_rfl⟩
instance : Cf Tryz.prog 70 := ⟨fun _ _ => by kernel_rfl⟩
instance : Cf Tryz.prog 71 := ⟨fun _ _ => by kernel_rfl⟩
instance : Cf Tryz.prog 72 := ⟨fun _ _ => by kernel_rfl⟩
instance : Cf Tryz.prog 73 := ⟨fun _ _ => by kernel_rfl⟩
instance : Cf Tryz.prog 74 := ⟨fun _ _ => by kernel_rfl⟩
instance : Cf Tryz.prog 76 := ⟨fun _ _ => by kernel_rfl⟩
instance : Cf Tryz.prog 77 := ⟨fun _ _ => by kernel_rfl⟩
instance : Cf Tryz.prog 78 := ⟨fun _ _ => by kernel_rfl⟩
instance : Cf Tryz.prog 79 := ⟨fun _ _ => by kernel_rfl⟩
instance : Cf Tryz.prog 80 := ⟨fun _ _ => by kernel_rfl⟩
instance : Cf Tryz.prog 81 := ⟨fun _ _ => by kernel_rfl⟩
instance : Cf Tryz.prog 82 := ⟨fun _ _ => by kernel_rfl⟩
instance : Cf Tryz.prog 83 := ⟨fun _ _ => by kernel_rfl⟩
instance : Cf Tryz.prog 84 := ⟨fun _ _ => by kernel_rfl⟩
instance : Cf Tryz.prog 85 := ⟨fun _ _ => by kernel_rfl⟩
instance : Cf Tryz.prog 86 := ⟨fun _ _ => by kernel_rfl⟩
instance : Cf Tryz.prog 87 := ⟨fun _ _ => by kernel_rfl⟩
instance : Cf Tryz.prog 88 := ⟨fun _ _ => by kernel_rfl⟩
instance : Cf Tryz.prog 89 := ⟨fun _ _ => by kernel_rfl⟩
instance : Cf Tryz.prog 90 := ⟨fun _ _ => by kernel_rfl⟩
instance : Cf Tryz.prog 91 := ⟨fun _ _ => by kernel_rfl⟩
instance : Cf Tryz.prog 92 := ⟨fun _ _ => by kernel_rfl⟩
instance : Cf Tryz.prog 93 := ⟨fun _ _ => by kernel_rfl⟩
instance : Cf Tryz.prog 94 := ⟨fun _ _ => by kernel_rfl⟩
instance : Cf Tryz.prog 100 := ⟨fun _ _ => by kernel_rfl⟩
instance : Cf Tryz.prog 101 := ⟨fun _ _ => by kernel_rfl⟩
instance : Cf Tryz.prog 102 := ⟨fun _ _ => by kernel_rfl⟩
instance : Cf Tryz.prog 111 := ⟨fun _ _ => by kernel_rfl⟩
instance : Cf Tryz.prog 113 := ⟨fun _ _ => by kernel_rfl⟩
instance : Cf Tryz.prog 126 := ⟨fun _ _ => by kernel_rfl⟩
instance : Cf Tryz.prog 127 := ⟨fun _ _ => by kernel_rfl⟩
instance : Cf Tryz.prog 128 := ⟨fun _ _ => by kernel_rfl⟩
instance : Cf Tryz.prog 136 := ⟨fun _ _ => by kernel_rfl⟩
theorem ia_52_0 : ∀ (b off : Nat) (w : World), (Instr.indexAt 52 (.pointer (some ⟨b, off, none⟩)) (.int .i64 0)).run Tryz.prog w = .ok (.pointer (some ⟨b, off + 0, none⟩)) w := fun _ _ _ => by kernel_rfl
theorem ia_52_1 : ∀ (b off : Nat) (w : World), (Instr.indexAt 52 (.pointer (some ⟨b, off, none⟩)) (.int .i64 1)).run Tryz.prog w = .ok (.pointer (some ⟨b, off + 1, none⟩)) w := fun _ _ _ => by kernel_rfl
theorem fv_77_0 : ∀ (a0 a1 : Value) (w : World), (Instr.field 77 (.agg #[a0, a1]) 0).run Tryz.prog w = .ok (a0) w := fun _ _ _ => by kernel_rfl
end Go.Proofs.YtjkolebffbeeeaaGreatDoor
