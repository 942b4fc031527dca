/- Short names for the words that a printed walk says most often. -/
import Derived.Test.YtifkadmljokffaaWWords
import Derived.Test.YtifkadmljokffaaWN
set_option linter.unusedVariables false
namespace Go.Proofs.Ytifkadmljokffaa.Pre
open Go.RowKit Go.Proofs.YtifkadmljokffaaW.PrintWords
theorem bN : type_of% @blk_drewN := @blk_drewN
theorem bD : type_of% @blk_drew := @blk_drew
theorem bA : type_of% @blk_alloc := @blk_alloc
theorem rA : type_of% @Kd.R_alloc := @Kd.R_alloc
theorem rN : type_of% @Kd.R_drewN := @Kd.R_drewN
theorem rD : type_of% @Kd.R_drew := @Kd.R_drew
theorem nA : type_of% @Kd.N_alloc := @Kd.N_alloc
theorem nN : type_of% @Kd.N_drewN := @Kd.N_drewN
theorem nD : type_of% @Kd.N_drew := @Kd.N_drew
theorem eA : type_of% @below_alloc := @below_alloc
theorem eN : type_of% @pw_below_drewN := @pw_below_drewN
theorem eD : type_of% @below_drew1 := @below_drew1
theorem sA : type_of% @List.setIfInBounds_toArray := @List.setIfInBounds_toArray
theorem sB : type_of% @List.set_cons_zero := @List.set_cons_zero
theorem sC : type_of% @List.set_cons_succ := @List.set_cons_succ
end Go.Proofs.Ytifkadmljokffaa.Pre
