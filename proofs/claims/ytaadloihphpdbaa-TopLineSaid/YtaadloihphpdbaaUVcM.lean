/- Maps from numbers to true, on the abstract heap: made, asked, added to. -/
import Derived.Test.YtaadloihphpdbaaUVcC
import Derived.MapKept
set_option linter.unusedVariables false
set_option linter.unusedSimpArgs false
namespace Go.Vc
open Go Go.RowKit
section
variable {G : Prg} {Γ : Ctx} {E : Env} {dst : Option Tmp} {ty : TypeId} {pos : String} {aft : Array Edge} {gd : Option (Nat × Bool)}
end
section
variable {G : Prg} {Γ : Ctx} {ops : Array Oper} {fin : List Lg → Prop} {K : Env → Prop} {os : List Oper} {log : List Lg} {sl : List (Nat × AV)} {ob : List (Nat × AO)} {nn : Nat} {d : Nat} {ty : TypeId} {pos : String} {aft : Array Edge} {gd : Option (Nat × Bool)}
end
end Go.Vc
