/- The statement WidenGrows. -/
import Derived.Test.YtmjpcakikflcfaaGrow
import Derived.Test.YtmjpcakikflcfaaWGrow
namespace Go.Proofs.Ytmjpcakikflcfaa
theorem widen_grows_proved : Rows.WidenGrowsSaid := wg_over (fun n v lv hgv xs low high w h1 h2 h3 _ _ => law_widen_grows n v lv hgv xs low high w h1 h2 h3)
#print axioms widen_grows_proved
end Go.Proofs.Ytmjpcakikflcfaa
