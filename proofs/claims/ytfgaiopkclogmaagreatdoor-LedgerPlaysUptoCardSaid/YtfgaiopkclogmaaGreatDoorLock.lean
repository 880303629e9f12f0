/- The numbers under which this dump holds the library's locks, and that it holds them; printed by gen_lock.py, checked by the kernel. -/
import Derived.Test.YtfgaiopkclogmaaGreatDoorProg
import Derived.Conc.MuLone
import Derived.KernelRfl
namespace Go.Proofs
abbrev Tryz.muLink : Go.Conc.Locks.MuLink := { lock := 31, unlock := 32, ilock := 57, iunlock := 58, lockSlow := 86, unlockSlow := 89, disable := 82, enable := 84, acquire := 85, relMerge := 87, cas32 := 83, add32 := 88, tMutex := 86, tIMutex := 84, tPMutex := 122, tPIMutex := 145, tPI32 := 147, tUP := 149, tNoCopy := 81, tU32 := 82 }
theorem Tryz.muLib : Go.Conc.Locks.MuLib Tryz.prog Tryz.muLink :=
  ⟨Tryz.func31, Tryz.func32, Tryz.func57, Tryz.func58, Tryz.func82, Tryz.func84, Tryz.func85, Tryz.func87, Tryz.func83, Tryz.func88, Tryz.underlying84, Tryz.runUnderlying84, Tryz.sizeOf84, Tryz.isAgg84, Tryz.zeroValue84, Tryz.underlying86, Tryz.runUnderlying86, Tryz.sizeOf86, Tryz.isAgg86, Tryz.zeroValue86, Tryz.underlying122, Tryz.runUnderlying122, Tryz.sizeOf122, Tryz.isAgg122, Tryz.zeroValue122, Tryz.underlying145, Tryz.runUnderlying145, Tryz.sizeOf145, Tryz.isAgg145, Tryz.zeroValue145, Tryz.underlying147, Tryz.runUnderlying147, Tryz.sizeOf147, Tryz.isAgg147, Tryz.zeroValue147, Tryz.underlying149, Tryz.runUnderlying149, Tryz.sizeOf149, Tryz.isAgg149, Tryz.zeroValue149, Tryz.underlying81, Tryz.runUnderlying81, Tryz.sizeOf81, Tryz.isAgg81, Tryz.zeroValue81, Tryz.underlying21, Tryz.runUnderlying21, Tryz.sizeOf21, Tryz.isAgg21, Tryz.zeroValue21, (by kernel_rfl)⟩
end Go.Proofs
