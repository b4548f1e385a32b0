/- The numbers under which this program holds the lock's functions and types, and that it holds them. -/
import Derived.Test.YtjghbcligjiaaaaProg
import Derived.Conc.RwLib
import Derived.Conc.MuData
import Derived.KernelRfl
namespace Go.Proofs.Ytjghbcligjiaaaa
abbrev Try.muLink : Go.Conc.Locks.MuLink := { lock := 42, unlock := 35, ilock := 50, iunlock := 47, lockSlow := 61, unlockSlow := 54, disable := 52, enable := 55, acquire := 60, relMerge := 51, cas32 := 59, add32 := 53, tMutex := 78, tIMutex := 76, tPMutex := 107, tPIMutex := 112, tPI32 := 116, tUP := 114, tNoCopy := 73, tU32 := 74 }
theorem Try.muLib : Go.Conc.Locks.MuLib Try.prog Try.muLink :=
  ⟨Try.func42, Try.func35, Try.func50, Try.func47, Try.func52, Try.func55, Try.func60, Try.func51, Try.func59, Try.func53, Try.underlying76, Try.runUnderlying76, Try.sizeOf76, Try.isAgg76, Try.zeroValue76, Try.underlying78, Try.runUnderlying78, Try.sizeOf78, Try.isAgg78, Try.zeroValue78, Try.underlying107, Try.runUnderlying107, Try.sizeOf107, Try.isAgg107, Try.zeroValue107, Try.underlying112, Try.runUnderlying112, Try.sizeOf112, Try.isAgg112, Try.zeroValue112, Try.underlying116, Try.runUnderlying116, Try.sizeOf116, Try.isAgg116, Try.zeroValue116, Try.underlying114, Try.runUnderlying114, Try.sizeOf114, Try.isAgg114, Try.zeroValue114, Try.underlying73, Try.runUnderlying73, Try.sizeOf73, Try.isAgg73, Try.zeroValue73, Try.underlying21, Try.runUnderlying21, Try.sizeOf21, Try.isAgg21, Try.zeroValue21, (by kernel_rfl)⟩
theorem Try.muData : Go.Conc.Locks.MuData Try.prog Try.muLink := ⟨Try.underlying74, by kernel_rfl, by kernel_rfl, by kernel_rfl, by kernel_rfl, by kernel_rfl⟩
end Go.Proofs.Ytjghbcligjiaaaa
