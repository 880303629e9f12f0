/- The numbers under which this dump holds the library's locks, and that it holds them; printed by gen_lock.py, checked by the kernel. -/
import Derived.Test.YtfgaiopkclogmaaDoorProg
import Derived.Conc.MuLone
import Derived.KernelRfl
namespace Go.Proofs
abbrev Tryd.muLink : Go.Conc.Locks.MuLink := { lock := 46, unlock := 47, ilock := 59, iunlock := 60, lockSlow := 73, unlockSlow := 76, disable := 69, enable := 71, acquire := 72, relMerge := 74, cas32 := 70, add32 := 75, tMutex := 83, tIMutex := 81, tPMutex := 95, tPIMutex := 105, tPI32 := 107, tUP := 101, tNoCopy := 78, tU32 := 79 }
theorem Tryd.muLib : Go.Conc.Locks.MuLib Tryd.prog Tryd.muLink :=
  ⟨Tryd.func46, Tryd.func47, Tryd.func59, Tryd.func60, Tryd.func69, Tryd.func71, Tryd.func72, Tryd.func74, Tryd.func70, Tryd.func75, Tryd.underlying81, Tryd.runUnderlying81, Tryd.sizeOf81, Tryd.isAgg81, Tryd.zeroValue81, Tryd.underlying83, Tryd.runUnderlying83, Tryd.sizeOf83, Tryd.isAgg83, Tryd.zeroValue83, Tryd.underlying95, Tryd.runUnderlying95, Tryd.sizeOf95, Tryd.isAgg95, Tryd.zeroValue95, Tryd.underlying105, Tryd.runUnderlying105, Tryd.sizeOf105, Tryd.isAgg105, Tryd.zeroValue105, Tryd.underlying107, Tryd.runUnderlying107, Tryd.sizeOf107, Tryd.isAgg107, Tryd.zeroValue107, Tryd.underlying101, Tryd.runUnderlying101, Tryd.sizeOf101, Tryd.isAgg101, Tryd.zeroValue101, Tryd.underlying78, Tryd.runUnderlying78, Tryd.sizeOf78, Tryd.isAgg78, Tryd.zeroValue78, Tryd.underlying21, Tryd.runUnderlying21, Tryd.sizeOf21, Tryd.isAgg21, Tryd.zeroValue21, (by kernel_rfl)⟩
end Go.Proofs
