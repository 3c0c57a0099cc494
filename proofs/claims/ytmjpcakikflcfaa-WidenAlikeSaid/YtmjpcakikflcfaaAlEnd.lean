/- The statement WidenAlike. -/
import Derived.Test.YtmjpcakikflcfaaAl
import Derived.Test.YtmjpcakikflcfaaAlRow
namespace Go.Proofs.Ytmjpcakikflcfaa
theorem widen_alike_proved : Rows.WidenAlikeSaid := wa_over (fun n v kv pv xs kk ps w h1 h2 h3 => law_widen_alike n v kv pv xs kk ps w h1 h2 h3)
#print axioms widen_alike_proved
end Go.Proofs.Ytmjpcakikflcfaa
