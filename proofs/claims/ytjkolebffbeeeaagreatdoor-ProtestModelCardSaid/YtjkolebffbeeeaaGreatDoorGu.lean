import Derived.Test.YtjkolebffbeeeaaGreatDoorGt
import Derived.Test.YtjkolebffbeeeaaGreatDoorG4
/- Closed facts of the program, as instances. -/
namespace Go.Proofs.YtjkolebffbeeeaaGreatDoor
open Go Go.RowKit Go.Proofs

instance : Und Tryz.prog 80 (.slice 5) := ⟨by kernel_rfl⟩
instance : Siz Tryz.prog 5 1 := ⟨fun _ => by kernel_rfl⟩
instance : Siz Tryz.prog 79 1 := ⟨fun _ => by kernel_rfl⟩
instance : Siz Tryz.prog 80 1 := ⟨fun _ => by kernel_rfl⟩
instance : Agg Tryz.prog 79 false := ⟨fun _ => by kernel_rfl⟩
instance : Agg Tryz.prog 80 false := ⟨fun _ => by kernel_rfl⟩
instance : Fof Tryz.prog 82 0 0 := ⟨fun _ _ _ => by kernel_rfl⟩
instance : Fof Tryz.prog 82 1 1 := ⟨fun _ _ _ => by kernel_rfl⟩
instance : Inf Tryz.prog 5 (.int .u8 0) 1 1 := ⟨by kernel_rfl⟩
instance : Cf Tryz.prog 75 := ⟨fun _ _ => by kernel_rfl⟩
instance : Cf Tryz.prog 97 := ⟨fun _ _ => by kernel_rfl⟩
instance : Und Tryz.prog 109 (.pointer 5) := ⟨by kernel_rfl⟩
end Go.Proofs.YtjkolebffbeeeaaGreatDoor
