/- Proved in this text: lemmas and contracts of functions that the claim uses (parts: Read3). No condition. -/
import Derived.Test.YtndflfipaddfoaaGreatStM17
import Derived.Test.YtndflfipaddfoaaGreatStM10
set_option linter.unusedVariables false
set_option linter.unusedSimpArgs false
set_option maxRecDepth 100000
set_option maxHeartbeats 4000000


namespace Go.Proofs.YtndflfipaddfoaaGreat
open Go Go.Abs Go.RowKit
theorem rdN_u8s {n:Nat} {cs:List AV} (h:RdN (.int .u8) n 1 cs):∃xs:List Int,cs=u8s xs∧xs.length=n∧∀x∈xs,0≤x∧x≤255:=by
 induction n generalizing cs with
 |zero=>cases h;exact ⟨[],rfl,rfl,by simp⟩
 |succ n ih=>
  cases h with
  |snoc h1 h2 h3=>
   obtain ⟨xs,rfl,h5,h6⟩:=ih h1
   cases h2 with
   |@int k m hw=>
    refine ⟨xs++[m],by simp [u8s],by simp [h5],fun x hx=>?_⟩
    rcases List.mem_append.1 hx with hx|hx
    ·exact h6 x hx
    ·have:x=m:=by simpa using hx
     subst this
     simpa [Lit.wf,show IntKind.u8.min=0 from rfl,show IntKind.u8.max=255 from rfl] using hw
theorem rd_u8s {ds:List AV} (h:Rd (.slice 1 (.int .u8)) ds):∃xs:List Int,ds=[.imm 1 xs.length (u8s xs)]∧xs.length≤9223372036854775807∧∀x∈xs,0≤x∧x≤255:=by
 cases h with
 |slice hl hn=>
  obtain ⟨xs,rfl,h1,h2⟩:=rdN_u8s hn
  subst h1
  exact ⟨xs,rfl,by simp only [maxLen] at hl;omega,h2⟩
end Go.Proofs.YtndflfipaddfoaaGreat
