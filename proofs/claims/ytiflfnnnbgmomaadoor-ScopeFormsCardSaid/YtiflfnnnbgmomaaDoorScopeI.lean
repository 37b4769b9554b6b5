/- resolver.node, whole. -/
import Derived.Test.YtiflfnnnbgmomaaDoorScopeHE
import Derived.Test.YtiflfnnnbgmomaaDoorScopeH0
import Derived.Test.YtiflfnnnbgmomaaDoorScopeH9
import Derived.Test.YtiflfnnnbgmomaaDoorScopeH10
namespace Go.Proofs.YtiflfnnnbgmomaaDoor
open Go.RowKit
theorem node_any (os : List OpD) (A : Option Addr) (c rb nb cn : Nat) (hol : os.length ≤ maxLen) (hrn : nb < rb) : ∀ f : Nat, NodeLaw os A c rb nb cn f
  | 0 => fun ns a env E ce w h => h.elim
  | f + 1 => fun ns a env E ce w hF hnl hel hR hN hO hE hEn => by
    have ih := node_any os A c rb nb cn hol hrn f
    by_cases h0 : (ns.getD a default).kind = 0
    · exact node_k0 os A c rb nb cn hol hrn f ih ns a env E ce w hF hnl hel hR hN hO hE hEn _ rfl h0
    by_cases h9 : (ns.getD a default).kind = 9
    · exact node_k9 os A c rb nb cn hol hrn f ih ns a env E ce w hF hnl hel hR hN hO hE hEn _ rfl h9
    by_cases h10 : (ns.getD a default).kind = 10
    · exact node_k10 os A c rb nb cn hol hrn f ih ns a env E ce w hF hnl hel hR hN hO hE hEn _ rfl h10
    exact node_other os A c rb nb cn hol hrn f ih ns a env E ce w hF hnl hel hR hN hO hE hEn _ rfl ⟨h0, h9, h10⟩
end Go.Proofs.YtiflfnnnbgmomaaDoor
