/- Texts of this proof, one behind the other: PsJoin, PsJrnS. -/
import Derived.Test.YtdfemnffpaopfaaGreatDoorGrs30
import Derived.Test.YtdfemnffpaopfaaGreatDoorGrs31
namespace Go.Proofs.YtdfemnffpaopfaaGreatDoor
open Go.RowKit
set_option linter.unusedVariables false
set_option linter.unusedSimpArgs false
set_option maxHeartbeats 4000000
set_option maxRecDepth 100000

noncomputable def rdE (s:ByteArray):List Entry:=(rdj 60 s.data.toList 1).1
noncomputable def rdN (s:ByteArray):Nat:=(rdj 60 s.data.toList 1).2.1
noncomputable def rdQ (s:ByteArray):Int:=(rdj 60 s.data.toList 1).2.2
theorem impl_ReadJournal_k (s:ByteArray) (w:World) (hs:s.size≤4194304) (hT:TabJ w):Calls Tryz.prog 49 #[.string s] w fun e w'=>∃ v:Sv,e=.returned (.tuple #[.slice v.A v.n v.c,.int .i64 (rdN s:Int)])∧OwN w' v (rdE s)∧Fresh w.heap.size w' (fpN v)∧Below w.heap.size w w':=by
  go_enter Tryz.func49,Tryz.ntmps49
  go_wp2_with fail
  refine Calls.mono (impl_readJournal_c s _ hs hT) ?_
  rintro e w1 ⟨v,rfl,ho,hf,hb⟩
  go_wp2_with fail
  refine bodyPost_ret (v:=.tuple #[.slice v.A v.n v.c,.int .i64 (rdN s:Int)]) (by simp [*,rdN,results,Tryz.results49,go_sem]) rfl ⟨v,rfl,ho,hf,hb⟩
theorem rdj_few:∀ (k:Nat) (r:List UInt8) (p:Int),(rdj k r p).1.length≤k
  | 0,_,_=>Nat.le_refl _
  | k+1,r,p=>by
    rw [rdj]
    split
    · simp
    · rename_i e _
      have:=rdj_few k (r.drop (entT e p).size) (entSum e p)
      simp;omega
end Go.Proofs.YtdfemnffpaopfaaGreatDoor
