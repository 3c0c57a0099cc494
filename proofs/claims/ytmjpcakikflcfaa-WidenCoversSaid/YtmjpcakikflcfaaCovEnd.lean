/- The statement WidenCovers. -/
import Derived.Test.YtmjpcakikflcfaaCov
import Derived.Test.YtmjpcakikflcfaaCovRow
namespace Go.Proofs.Ytmjpcakikflcfaa
theorem widen_covers_proved : Rows.WidenCoversSaid := wc_over (fun n v v0 v1 pv xs k0 k1 ps w h1 h2 h3 h4 => law_widen_covers n v v0 v1 pv xs k0 k1 ps w h1 h2 h3 h4)
#print axioms widen_covers_proved
end Go.Proofs.Ytmjpcakikflcfaa
