/- The statement WidenBounds. -/
import Derived.Test.YtmjpcakikflcfaaWBz
import Derived.Test.YtmjpcakikflcfaaWBrow
namespace Go.Proofs.Ytmjpcakikflcfaa
theorem widen_bounds_proved : Rows.WidenBoundsSaid := wb_over (fun n v lv hgv xs low high w h1 h2 h3 _ _ => law_widen_bounds n v lv hgv xs low high w h1 h2 h3)
#print axioms widen_bounds_proved
end Go.Proofs.Ytmjpcakikflcfaa
