/- NetOrder: the walk of cutoverlaw22.NetOrder: it answers true, and turns nothing that was there. -/
import Derived.Test.YtngfimjbgopgjaaNetOrderAA
import Derived.Test.YtngfimjbgopgjaaNetOrderAB
import Derived.Test.YtngfimjbgopgjaaNetOrderBA
import Derived.Test.YtngfimjbgopgjaaNetOrderBB
namespace Go.Proofs.Ytngfimjbgopgjaa.netOrder
open Go.RowKit
set_option linter.unusedVariables false

theorem walk (w : World) (a0 : Option Addr) (len0 cap0 : Nat) (h0 : Bys w a0 len0 cap0) (a1 : Option Addr) (len1 cap1 : Nat) (h1 : Ints w a1 len1 cap1) :
    Calls Try.prog 13 #[.slice a0 len0 cap0, .slice a1 len1 cap1] w (SaysTrue w) := by
  obtain ⟨zs, rfl, hlc, hcm, hlm, hrd, hwf⟩ := h0
  obtain ⟨ys, rfl, hlc1, hcm1, hlm1, hrd1, hwf1⟩ := h1
  by_cases hZ : zs.length ≤ 60
  · by_cases hY : ys.length ≤ 40
    · exact walkAA w a0 cap0 zs hlc hcm hlm hrd hwf a1 cap1 ys hlc1 hcm1 hlm1 hrd1 hwf1 hZ hY
    · exact walkAB w a0 cap0 zs hlc hcm hlm hrd hwf a1 cap1 ys hlc1 hcm1 hlm1 hrd1 hwf1 hZ (by omega)
  · by_cases hY : ys.length ≤ 40
    · exact walkBA w a0 cap0 zs hlc hcm hlm hrd hwf a1 cap1 ys hlc1 hcm1 hlm1 hrd1 hwf1 (by omega) hY
    · exact walkBB w a0 cap0 zs hlc hcm hlm hrd hwf a1 cap1 ys hlc1 hcm1 hlm1 hrd1 hwf1 (by omega) (by omega)
end Go.Proofs.Ytngfimjbgopgjaa.netOrder
