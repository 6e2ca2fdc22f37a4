import Derived.Test.YtimpjlnbbdfehaaGreatDoorGB
import Derived.Lay
import Derived.Lib.LaidU8
import Derived.Lib.LaidTab
import Derived.WalkKit
import Derived.ProofKit
import Derived.LaidOnce
import Derived.SevenTiedAt
import Derived.OpenShut
import Derived.ShutString
import Derived.ChangeOld
import Derived.Below
import Derived.ChangeArms
import Derived.Test.YtimpjlnbbdfehaaGreatDoorCards
import Derived.Test.YtimpjlnbbdfehaaGreatDoorTie
namespace Go.Proofs.YtimpjlnbbdfehaaGreatDoor
open Go.RowKit Go.Shelf Go.Lib Go.Sort
set_option linter.unusedVariables false
def saltT : List Int := [1116352408, 1899447441, 3049323471, 3921009573, 961987163, 1508970993, 2453635748, 2870763221, 3624381080, 310598401, 607225278, 1426881987, 1925078388, 2162078206, 2614888103, 3248222580, 3835390401, 4022224774, 264347078, 604807628, 770255983, 1249150122, 1555081692, 1996064986, 2554220882, 2821834349, 2952996808, 3210313671, 3336571891, 3584528711, 113926993, 338241895, 666307205, 773529912, 1294757372, 1396182291, 1695183700, 1986661051, 2177026350, 2456956037, 2730485921, 2820302411, 3259730800, 3345764771, 3516065817, 3600352804, 4094571909, 275423344, 430227734, 506948616, 659060556, 883997877, 958139571, 1322822218, 1537002063, 1747873779, 1955562222, 2024104815, 2227730452, 2361852424, 2428436474, 2756734187, 3204031479, 3329325298]
theorem tab_of_reads {P : Program} {W : World} {name : String} {k : IntKind} {zs : List Int} {g : Nat} {t e : TypeId} {n : Nat}
    (hg : P.globalNamed name = some g) (hty : (P.globals[g]?).map (·.type) = some t) (ht : P.underlying t = some (.array n e)) (he : P.underlying e = some (.int k)) (hce : P.cellsOf e = 1) (hct : P.cellsOf t = n)
    (h : VarReads P W name (tabData k zs)) : TabIs P W name k zs := by
  obtain ⟨g', t', cs, fuel, p, hg', ht', hvar, hd⟩ := h
  obtain rfl := Option.some.inj (hg.symm.trans hg')
  obtain rfl := Option.some.inj (hty.symm.trans ht')
  unfold TabIs
  rw [hvar, ← cells_of_tab ht he hce hct hd]
theorem salt_data : (Rows.laid_lodestone_sha_salts : DataW Unit) = tabData .u32 saltT := by kernel_rfl
theorem salt_named : Tryz.prog.globalNamed "lodestone/sha.salts" = some 0 := by kernel_rfl
theorem salt_at : (List.range 64).all (fun i => saltT[i]? == some (n32 (saltF i))) = true := by kernel_rfl
set_option maxRecDepth 100000 in
theorem salts_open {W : World} (h : VarReads Tryz.prog W "lodestone/sha.salts" Rows.laid_lodestone_sha_salts) : Salts W := by
  rw [salt_data] at h
  have hT : TabIs Tryz.prog W "lodestone/sha.salts" .u32 saltT := tab_of_reads (g := 0) (t := 265) (n := 64) (e := 33) salt_named (by kernel_rfl) (by kernel_rfl) (by kernel_rfl) (by kernel_rfl) (by kernel_rfl) h
  have hc : ∀ i, i < 64 → W.cell? ⟨0, i, none⟩ = some (.int .u32 (n32 (saltF i))) := fun i hi => by
    have h1 := World.var?_cell salt_named hT i
    rw [h1, ← Array.getElem?_toList]
    have h2 := List.all_eq_true.1 salt_at i (List.mem_range.2 hi)
    have h3 : saltT[i]? = some (n32 (saltF i)) := by simpa using h2
    rw [show ((saltT.map fun z => Value.int .u32 z).toArray).toList[i]? = (saltT[i]?).map (Value.int .u32) by simp]
    rw [h3]; rfl
  exact ⟨World.block_lt_of_cell? W _ (hc 0 (by omega)), hc⟩
theorem main_is : Tryz.prog.mainIs = some (true, ("bf484487e6c8d3db1aa20f22edf73caec7eb3dd7eec89bb8ef93aef8df67693f" : String).toList) := by kernel_rfl
theorem looks_not : false = Tryz.prog.looks [] := by kernel_rfl
end Go.Proofs.YtimpjlnbbdfehaaGreatDoor
