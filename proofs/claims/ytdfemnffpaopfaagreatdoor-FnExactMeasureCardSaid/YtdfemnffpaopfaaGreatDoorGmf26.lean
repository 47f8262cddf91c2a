/- Texts of this proof, one behind the other: EntI, EntS. -/
import Derived.Test.YtdfemnffpaopfaaGreatDoorGmf19
import Derived.Test.YtdfemnffpaopfaaGreatDoorGmf21
import Derived.Test.YtdfemnffpaopfaaGreatDoorGmf22
namespace Go.Proofs.YtdfemnffpaopfaaGreatDoor
open Go.RowKit
set_option linter.unusedVariables false
set_option linter.unusedSimpArgs false
set_option maxHeartbeats 1000000
set_option maxRecDepth 100000
theorem impl_FormatEntry_false (eid id kind:Int) (fr to:ByteArray) (t x y wt p:Int) (w:World) (hwe:-9223372036854775808≤eid∧eid≤9223372036854775807) (hf:fr.size≤4194304) (ht:to.size≤4194304) (hv:vldEntry ⟨false,eid,⟨id,kind,fr,to,⟨t,x,y⟩,wt⟩⟩=true) (hp:inR p 0 65520=true) (hT:Tab w) :
    Calls Tryz.prog 13 #[vEntry false eid id kind fr to t x y wt,.int .i64 p] w fun e w'=>e=.returned (.tuple #[.string (entT ⟨false,eid,⟨id,kind,fr,to,⟨t,x,y⟩,wt⟩⟩ p),.int .i64 (entSum ⟨false,eid,⟨id,kind,fr,to,⟨t,x,y⟩,wt⟩⟩ p)])∧Below w.heap.size w w':=by
  have HV:=Lib.hid hv
  have HP:=Lib.hid hp
  have HT:=Lib.hid hT
  clear hT
  obtain ⟨p0,p1⟩:=inR_iff.1 hp
  obtain ⟨we0,we1⟩:=hwe
  have zf0:=fmtFac_size ⟨id,kind,fr,to,⟨t,x,y⟩,wt⟩
  generalize hF:fmtFac ⟨id,kind,fr,to,⟨t,x,y⟩,wt⟩=F at zf0
  have HF:=Lib.hid hF
  clear hF
  obtain ⟨sr,er,zr,cr⟩:=cat ⟨#[114,101,109,111,118,101,32]⟩ (itoaB eid) 7 21 (by decide) (itoaB_size (by omega) (by omega)) (by omega)
  obtain ⟨s0,e0,z0,c0⟩:=cat ⟨#[97,100,100,32]⟩ F 4 116 (by decide) zf0 (by omega)
  have hs:s0.data.toList=entL ⟨false,eid,⟨id,kind,fr,to,⟨t,x,y⟩,wt⟩⟩:=by
    have hvf:vldFactor ⟨id,kind,fr,to,⟨t,x,y⟩,wt⟩=true:=by simp [vldEntry] at hv;exact hv.2
    rw [← e0.out,← HF.out]
    simp [entL,ByteArray.data_append,fmtFac_data hvf]
  have zs:s0.size≤120:=by omega
  obtain ⟨a0,f0,y0,d0⟩:=cat (itoaB p) ⟨#[32]⟩ 21 1 (itoaB_size (by omega) (by omega)) (by decide) (by omega)
  obtain ⟨a1,f1,y1,d1⟩:=cat a0 s0 22 120 y0 zs (by omega)
  obtain ⟨n0,n1⟩:=chk_bound a1
  generalize hn:chk a1=n at n0 n1
  have HN:=Lib.hid hn
  obtain ⟨b0,g0,x0,q0⟩:=cat s0 ⟨#[32,35]⟩ 120 2 zs (by decide) (by omega)
  obtain ⟨b1,g1,x1,q1⟩:=cat b0 (itoaB n) 122 21 x0 (itoaB_size (by omega) (by omega)) (by omega)
  obtain ⟨b2,g2,x2,q2⟩:=cat b1 ⟨#[10]⟩ 143 1 x1 (by decide) (by omega)
  obtain ⟨r1,r2⟩:=ent_fin hs f0.out f1.out hn g0.out g1.out g2.out
  rw [← r1,← r2]
  clear hn r1 r2 hs hv hp z0 zf0 zs x0 x1 x2 y0
  go_enter Tryz.func13,Tryz.ntmps13
  go_wp2_with (first
    | (go_at_call 44;refine (impl_IsValidEntry_c _ _ _ _ _ _ _ _ _ _ _ hf ht).mono ?_;rw [HV.out];rintro e w1 ⟨rfl,hb1⟩;have k1:=bBox hb1 w.heap.size (by first | (simp;done) | omega);have hz1:w.heap.size+1≤w1.heap.size:=(by first | exact bsz1 hb1 | (have:=hb1.size;omega));have B1:Below w.heap.size w w1:=bTrans (by first | with_reducible assumption | exact bAlloc (Below.refl _ _) _) hb1)
    | (go_at_call 46;refine (impl_FormatFactor_c _ _ _ _ _ _ _ _ _ hf ht (HT.out.below (by with_reducible assumption))).mono ?_;rw [HF.out];rintro e w3 ⟨rfl,hb3⟩;have k3:=bBox hb3 w.heap.size (by first | (simp;done) | omega);have hz3:w.heap.size+1≤w3.heap.size:=(by first | exact bsz1 hb3 | (have:=hb3.size;omega));have B3:Below w.heap.size w w3:=bTrans (by first | with_reducible assumption | exact bAlloc (Below.refl _ _) _) hb3)
    | (go_at_call 45;refine (impl_FormatInt_c _ _ (by omega) (by omega) (HT.out.below (by with_reducible assumption))).mono ?_;rintro e w4 ⟨rfl,hb4⟩;have k4:=bBox hb4 w.heap.size (by first | (simp;done) | omega);have hz4:w.heap.size+1≤w4.heap.size:=(by first | exact bsz1 hb4 | (have:=hb4.size;omega));have B4:Below w.heap.size w w4:=bTrans (by first | with_reducible assumption | exact bAlloc (Below.refl _ _) _) hb4)
    | (go_at_call 47;refine (impl_Checksum_c _ _ (by omega)).mono ?_;rw [HN.out];rintro e w5 ⟨rfl,rfl⟩))
  go_ret2
  exact ⟨rfl,by with_reducible assumption⟩
theorem impl_FormatEntry_true (eid id kind:Int) (fr to:ByteArray) (t x y wt p:Int) (w:World) (hwe:-9223372036854775808≤eid∧eid≤9223372036854775807) (hf:fr.size≤4194304) (ht:to.size≤4194304) (hv:vldEntry ⟨true,eid,⟨id,kind,fr,to,⟨t,x,y⟩,wt⟩⟩=true) (hp:inR p 0 65520=true) (hT:Tab w) :
    Calls Tryz.prog 13 #[vEntry true eid id kind fr to t x y wt,.int .i64 p] w fun e w'=>e=.returned (.tuple #[.string (entT ⟨true,eid,⟨id,kind,fr,to,⟨t,x,y⟩,wt⟩⟩ p),.int .i64 (entSum ⟨true,eid,⟨id,kind,fr,to,⟨t,x,y⟩,wt⟩⟩ p)])∧Below w.heap.size w w':=by
  have HV:=Lib.hid hv
  have HP:=Lib.hid hp
  have HT:=Lib.hid hT
  clear hT
  obtain ⟨p0,p1⟩:=inR_iff.1 hp
  obtain ⟨we0,we1⟩:=hwe
  have zf0:=fmtFac_size ⟨id,kind,fr,to,⟨t,x,y⟩,wt⟩
  generalize hF:fmtFac ⟨id,kind,fr,to,⟨t,x,y⟩,wt⟩=F at zf0
  have HF:=Lib.hid hF
  clear hF
  obtain ⟨sa,ea,za,ca⟩:=cat ⟨#[97,100,100,32]⟩ F 4 116 (by decide) zf0 (by omega)
  obtain ⟨s0,e0,z0,c0⟩:=cat ⟨#[114,101,109,111,118,101,32]⟩ (itoaB eid) 7 21 (by decide) (itoaB_size (by omega) (by omega)) (by omega)
  have hs:s0.data.toList=entL ⟨true,eid,⟨id,kind,fr,to,⟨t,x,y⟩,wt⟩⟩:=by
    rw [← e0.out]
    simp [entL,itoaB,ByteArray.data_append]
  have zs:s0.size≤120:=by omega
  obtain ⟨a0,f0,y0,d0⟩:=cat (itoaB p) ⟨#[32]⟩ 21 1 (itoaB_size (by omega) (by omega)) (by decide) (by omega)
  obtain ⟨a1,f1,y1,d1⟩:=cat a0 s0 22 120 y0 zs (by omega)
  obtain ⟨n0,n1⟩:=chk_bound a1
  generalize hn:chk a1=n at n0 n1
  have HN:=Lib.hid hn
  obtain ⟨b0,g0,x0,q0⟩:=cat s0 ⟨#[32,35]⟩ 120 2 zs (by decide) (by omega)
  obtain ⟨b1,g1,x1,q1⟩:=cat b0 (itoaB n) 122 21 x0 (itoaB_size (by omega) (by omega)) (by omega)
  obtain ⟨b2,g2,x2,q2⟩:=cat b1 ⟨#[10]⟩ 143 1 x1 (by decide) (by omega)
  obtain ⟨r1,r2⟩:=ent_fin hs f0.out f1.out hn g0.out g1.out g2.out
  rw [← r1,← r2]
  clear hn r1 r2 hs hv hp z0 zf0 zs x0 x1 x2 y0
  go_enter Tryz.func13,Tryz.ntmps13
  go_wp2_with (first
    | (go_at_call 44;refine (impl_IsValidEntry_c _ _ _ _ _ _ _ _ _ _ _ hf ht).mono ?_;rw [HV.out];rintro e w1 ⟨rfl,hb1⟩;have k1:=bBox hb1 w.heap.size (by first | (simp;done) | omega);have hz1:w.heap.size+1≤w1.heap.size:=(by first | exact bsz1 hb1 | (have:=hb1.size;omega));have B1:Below w.heap.size w w1:=bTrans (by first | with_reducible assumption | exact bAlloc (Below.refl _ _) _) hb1)
    | (go_at_call 46;refine (impl_FormatFactor_c _ _ _ _ _ _ _ _ _ hf ht (HT.out.below (by with_reducible assumption))).mono ?_;rw [HF.out];rintro e w3 ⟨rfl,hb3⟩;have k3:=bBox hb3 w.heap.size (by first | (simp;done) | omega);have hz3:w.heap.size+1≤w3.heap.size:=(by first | exact bsz1 hb3 | (have:=hb3.size;omega));have B3:Below w.heap.size w w3:=bTrans (by first | with_reducible assumption | exact bAlloc (Below.refl _ _) _) hb3)
    | (go_at_call 45;refine (impl_FormatInt_c _ _ (by omega) (by omega) (HT.out.below (by with_reducible assumption))).mono ?_;rintro e w4 ⟨rfl,hb4⟩;have k4:=bBox hb4 w.heap.size (by first | (simp;done) | omega);have hz4:w.heap.size+1≤w4.heap.size:=(by first | exact bsz1 hb4 | (have:=hb4.size;omega));have B4:Below w.heap.size w w4:=bTrans (by first | with_reducible assumption | exact bAlloc (Below.refl _ _) _) hb4)
    | (go_at_call 47;refine (impl_Checksum_c _ _ (by omega)).mono ?_;rw [HN.out];rintro e w5 ⟨rfl,rfl⟩))
  go_ret2
  exact ⟨rfl,by with_reducible assumption⟩
theorem impl_FormatEntry_bad (rm:Bool) (eid id kind:Int) (fr to:ByteArray) (t x y wt p:Int) (w:World) (hf:fr.size≤4194304) (ht:to.size≤4194304) (hv:vldEntry ⟨rm,eid,⟨id,kind,fr,to,⟨t,x,y⟩,wt⟩⟩=false) :
    Calls Tryz.prog 13 #[vEntry rm eid id kind fr to t x y wt,.int .i64 p] w fun e w'=>e=.returned (.tuple #[.string ⟨#[]⟩,.int .i64 0])∧Below w.heap.size w w':=by
  have HV:=Lib.hid hv
  have HP:Hid (inR p 0 65520=inR p 0 65520):=rfl
  clear hv
  go_enter Tryz.func13,Tryz.ntmps13
  go_wp2_with (first | (go_at_call 44;refine (impl_IsValidEntry_c _ _ _ _ _ _ _ _ _ _ _ hf ht).mono ?_;rw [HV.out];rintro e w1 ⟨rfl,hb1⟩;have B1:Below w.heap.size w w1:=bTrans (bAlloc (Below.refl _ _) _) hb1))
  all_goals (go_ret2;exact ⟨rfl,by with_reducible assumption⟩)
theorem impl_FormatEntry_far (rm:Bool) (eid id kind:Int) (fr to:ByteArray) (t x y wt p:Int) (w:World) (hf:fr.size≤4194304) (ht:to.size≤4194304) (hv:vldEntry ⟨rm,eid,⟨id,kind,fr,to,⟨t,x,y⟩,wt⟩⟩=true) (hp:inR p 0 65520=false) :
    Calls Tryz.prog 13 #[vEntry rm eid id kind fr to t x y wt,.int .i64 p] w fun e w'=>e=.returned (.tuple #[.string ⟨#[]⟩,.int .i64 0])∧Below w.heap.size w w':=by
  have HV:=Lib.hid hv
  have HP:=Lib.hid hp
  have hq:decide (p < 0)=true∨(decide (p < 0)=false∧decide (65520 < p)=true):=by
    have:¬ (0≤p∧p≤65520):=by simpa [inR] using hp
    simp;omega
  clear hv hp
  rcases hq with hq | ⟨hq,hq2⟩
  all_goals
    go_enter Tryz.func13,Tryz.ntmps13
    go_wp2_with (first | (go_at_call 44;refine (impl_IsValidEntry_c _ _ _ _ _ _ _ _ _ _ _ hf ht).mono ?_;rw [HV.out];rintro e w1 ⟨rfl,hb1⟩;have B1:Below w.heap.size w w1:=bTrans (bAlloc (Below.refl _ _) _) hb1))
    all_goals (go_ret2;exact ⟨rfl,by with_reducible assumption⟩)
theorem impl_FormatEntry_c (rm:Bool) (eid id kind:Int) (fr to:ByteArray) (t x y wt p:Int) (w:World) (hwe:-9223372036854775808≤eid∧eid≤9223372036854775807) (hf:fr.size≤4194304) (ht:to.size≤4194304) (hT:Tab w) :
    Calls Tryz.prog 13 #[vEntry rm eid id kind fr to t x y wt,.int .i64 p] w fun e w'=>e=.returned (.tuple #[.string (fmtEnt ⟨rm,eid,⟨id,kind,fr,to,⟨t,x,y⟩,wt⟩⟩ p).1,.int .i64 (fmtEnt ⟨rm,eid,⟨id,kind,fr,to,⟨t,x,y⟩,wt⟩⟩ p).2])∧Below w.heap.size w w':=by
  cases hv:vldEntry ⟨rm,eid,⟨id,kind,fr,to,⟨t,x,y⟩,wt⟩⟩
  · rw [show fmtEnt ⟨rm,eid,⟨id,kind,fr,to,⟨t,x,y⟩,wt⟩⟩ p=(⟨#[]⟩,0) by simp [fmtEnt,hv]]
    exact impl_FormatEntry_bad rm eid id kind fr to t x y wt p w hf ht hv
  cases hp:inR p 0 65520
  · rw [show fmtEnt ⟨rm,eid,⟨id,kind,fr,to,⟨t,x,y⟩,wt⟩⟩ p=(⟨#[]⟩,0) by simp [fmtEnt,hp]]
    exact impl_FormatEntry_far rm eid id kind fr to t x y wt p w hf ht hv hp
  rw [show fmtEnt ⟨rm,eid,⟨id,kind,fr,to,⟨t,x,y⟩,wt⟩⟩ p=(entT ⟨rm,eid,⟨id,kind,fr,to,⟨t,x,y⟩,wt⟩⟩ p,entSum ⟨rm,eid,⟨id,kind,fr,to,⟨t,x,y⟩,wt⟩⟩ p) by simp [fmtEnt,hv,hp]]
  cases rm
  · exact impl_FormatEntry_false eid id kind fr to t x y wt p w hwe hf ht hv hp hT
  · exact impl_FormatEntry_true eid id kind fr to t x y wt p w hwe hf ht hv hp hT
theorem spec_FormatEntry_false (eid id kind:Int) (fr to:ByteArray) (t x y wt p:Int) (w:World) (hwe:-9223372036854775808≤eid∧eid≤9223372036854775807) (hf:fr.size≤4194304) (ht:to.size≤4194304) (hv:vldEntry ⟨false,eid,⟨id,kind,fr,to,⟨t,x,y⟩,wt⟩⟩=true) (hp:inR p 0 65520=true) :
    Calls Tryz.prog 119 #[vEntry false eid id kind fr to t x y wt,.int .i64 p] w fun e w'=>e=.returned (.tuple #[.string (entT ⟨false,eid,⟨id,kind,fr,to,⟨t,x,y⟩,wt⟩⟩ p),.int .i64 (entSum ⟨false,eid,⟨id,kind,fr,to,⟨t,x,y⟩,wt⟩⟩ p)])∧Below w.heap.size w w':=by
  have HV:=Lib.hid hv
  have HP:=Lib.hid hp
  obtain ⟨p0,p1⟩:=inR_iff.1 hp
  obtain ⟨we0,we1⟩:=hwe
  have zf0:=fmtFac_size ⟨id,kind,fr,to,⟨t,x,y⟩,wt⟩
  generalize hF:fmtFac ⟨id,kind,fr,to,⟨t,x,y⟩,wt⟩=F at zf0
  have HF:=Lib.hid hF
  clear hF
  obtain ⟨sr,er,zr,cr⟩:=cat ⟨#[114,101,109,111,118,101,32]⟩ (itoaB eid) 7 21 (by decide) (itoaB_size (by omega) (by omega)) (by omega)
  obtain ⟨s0,e0,z0,c0⟩:=cat ⟨#[97,100,100,32]⟩ F 4 116 (by decide) zf0 (by omega)
  have hs:s0.data.toList=entL ⟨false,eid,⟨id,kind,fr,to,⟨t,x,y⟩,wt⟩⟩:=by
    have hvf:vldFactor ⟨id,kind,fr,to,⟨t,x,y⟩,wt⟩=true:=by simp [vldEntry] at hv;exact hv.2
    rw [← e0.out,← HF.out]
    simp [entL,ByteArray.data_append,fmtFac_data hvf]
  have zs:s0.size≤120:=by omega
  obtain ⟨a0,f0,y0,d0⟩:=cat (itoaB p) ⟨#[32]⟩ 21 1 (itoaB_size (by omega) (by omega)) (by decide) (by omega)
  obtain ⟨a1,f1,y1,d1⟩:=cat a0 s0 22 120 y0 zs (by omega)
  obtain ⟨n0,n1⟩:=chk_bound a1
  generalize hn:chk a1=n at n0 n1
  have HN:=Lib.hid hn
  obtain ⟨b0,g0,x0,q0⟩:=cat s0 ⟨#[32,35]⟩ 120 2 zs (by decide) (by omega)
  obtain ⟨b1,g1,x1,q1⟩:=cat b0 (itoaB n) 122 21 x0 (itoaB_size (by omega) (by omega)) (by omega)
  obtain ⟨b2,g2,x2,q2⟩:=cat b1 ⟨#[10]⟩ 143 1 x1 (by decide) (by omega)
  obtain ⟨r1,r2⟩:=ent_fin hs f0.out f1.out hn g0.out g1.out g2.out
  rw [← r1,← r2]
  clear hn r1 r2 hs hv hp z0 zf0 zs x0 x1 x2 y0
  go_enter Tryz.func119,Tryz.ntmps119
  go_wp2_with (first
    | (go_at_call 161;refine (spec_IsValidEntry_c _ _ _ _ _ _ _ _ _ _ _ hf ht).mono ?_;rw [HV.out];rintro e w1 ⟨rfl,hb1⟩;have k1:=bBox hb1 w.heap.size (by first | (simp;done) | omega);have hz1:w.heap.size+1≤w1.heap.size:=(by first | exact bsz1 hb1 | (have:=hb1.size;omega));have B1:Below w.heap.size w w1:=bTrans (by first | with_reducible assumption | exact bAlloc (Below.refl _ _) _) hb1)
    | (go_at_call 105;refine (l01In_c _ _ _ _).mono ?_;rw [HP.out];rintro e w2 ⟨rfl,rfl⟩)
    | (go_at_call 121;refine (spec_FormatFactor_c _ _ _ _ _ _ _ _ _ hf ht).mono ?_;rw [HF.out];rintro e w3 ⟨rfl,hb3⟩;have k3:=bBox hb3 w.heap.size (by first | (simp;done) | omega);have hz3:w.heap.size+1≤w3.heap.size:=(by first | exact bsz1 hb3 | (have:=hb3.size;omega));have B3:Below w.heap.size w w3:=bTrans (by first | with_reducible assumption | exact bAlloc (Below.refl _ _) _) hb3)
    | (go_at_call 81;refine (spec_FormatInt_c _ _ (by omega) (by omega)).mono ?_;rintro e w4 ⟨rfl,hb4⟩;have k4:=bBox hb4 w.heap.size (by first | (simp;done) | omega);have hz4:w.heap.size+1≤w4.heap.size:=(by first | exact bsz1 hb4 | (have:=hb4.size;omega));have B4:Below w.heap.size w w4:=bTrans (by first | with_reducible assumption | exact bAlloc (Below.refl _ _) _) hb4)
    | (go_at_call 162;refine (spec_Checksum_c _ _ (by omega)).mono ?_;rw [HN.out];rintro e w5 ⟨rfl,rfl⟩))
  go_ret2
  exact ⟨rfl,by with_reducible assumption⟩
theorem spec_FormatEntry_true (eid id kind:Int) (fr to:ByteArray) (t x y wt p:Int) (w:World) (hwe:-9223372036854775808≤eid∧eid≤9223372036854775807) (hf:fr.size≤4194304) (ht:to.size≤4194304) (hv:vldEntry ⟨true,eid,⟨id,kind,fr,to,⟨t,x,y⟩,wt⟩⟩=true) (hp:inR p 0 65520=true) :
    Calls Tryz.prog 119 #[vEntry true eid id kind fr to t x y wt,.int .i64 p] w fun e w'=>e=.returned (.tuple #[.string (entT ⟨true,eid,⟨id,kind,fr,to,⟨t,x,y⟩,wt⟩⟩ p),.int .i64 (entSum ⟨true,eid,⟨id,kind,fr,to,⟨t,x,y⟩,wt⟩⟩ p)])∧Below w.heap.size w w':=by
  have HV:=Lib.hid hv
  have HP:=Lib.hid hp
  obtain ⟨p0,p1⟩:=inR_iff.1 hp
  obtain ⟨we0,we1⟩:=hwe
  have zf0:=fmtFac_size ⟨id,kind,fr,to,⟨t,x,y⟩,wt⟩
  generalize hF:fmtFac ⟨id,kind,fr,to,⟨t,x,y⟩,wt⟩=F at zf0
  have HF:=Lib.hid hF
  clear hF
  obtain ⟨sa,ea,za,ca⟩:=cat ⟨#[97,100,100,32]⟩ F 4 116 (by decide) zf0 (by omega)
  obtain ⟨s0,e0,z0,c0⟩:=cat ⟨#[114,101,109,111,118,101,32]⟩ (itoaB eid) 7 21 (by decide) (itoaB_size (by omega) (by omega)) (by omega)
  have hs:s0.data.toList=entL ⟨true,eid,⟨id,kind,fr,to,⟨t,x,y⟩,wt⟩⟩:=by
    rw [← e0.out]
    simp [entL,itoaB,ByteArray.data_append]
  have zs:s0.size≤120:=by omega
  obtain ⟨a0,f0,y0,d0⟩:=cat (itoaB p) ⟨#[32]⟩ 21 1 (itoaB_size (by omega) (by omega)) (by decide) (by omega)
  obtain ⟨a1,f1,y1,d1⟩:=cat a0 s0 22 120 y0 zs (by omega)
  obtain ⟨n0,n1⟩:=chk_bound a1
  generalize hn:chk a1=n at n0 n1
  have HN:=Lib.hid hn
  obtain ⟨b0,g0,x0,q0⟩:=cat s0 ⟨#[32,35]⟩ 120 2 zs (by decide) (by omega)
  obtain ⟨b1,g1,x1,q1⟩:=cat b0 (itoaB n) 122 21 x0 (itoaB_size (by omega) (by omega)) (by omega)
  obtain ⟨b2,g2,x2,q2⟩:=cat b1 ⟨#[10]⟩ 143 1 x1 (by decide) (by omega)
  obtain ⟨r1,r2⟩:=ent_fin hs f0.out f1.out hn g0.out g1.out g2.out
  rw [← r1,← r2]
  clear hn r1 r2 hs hv hp z0 zf0 zs x0 x1 x2 y0
  go_enter Tryz.func119,Tryz.ntmps119
  go_wp2_with (first
    | (go_at_call 161;refine (spec_IsValidEntry_c _ _ _ _ _ _ _ _ _ _ _ hf ht).mono ?_;rw [HV.out];rintro e w1 ⟨rfl,hb1⟩;have k1:=bBox hb1 w.heap.size (by first | (simp;done) | omega);have hz1:w.heap.size+1≤w1.heap.size:=(by first | exact bsz1 hb1 | (have:=hb1.size;omega));have B1:Below w.heap.size w w1:=bTrans (by first | with_reducible assumption | exact bAlloc (Below.refl _ _) _) hb1)
    | (go_at_call 105;refine (l01In_c _ _ _ _).mono ?_;rw [HP.out];rintro e w2 ⟨rfl,rfl⟩)
    | (go_at_call 121;refine (spec_FormatFactor_c _ _ _ _ _ _ _ _ _ hf ht).mono ?_;rw [HF.out];rintro e w3 ⟨rfl,hb3⟩;have k3:=bBox hb3 w.heap.size (by first | (simp;done) | omega);have hz3:w.heap.size+1≤w3.heap.size:=(by first | exact bsz1 hb3 | (have:=hb3.size;omega));have B3:Below w.heap.size w w3:=bTrans (by first | with_reducible assumption | exact bAlloc (Below.refl _ _) _) hb3)
    | (go_at_call 81;refine (spec_FormatInt_c _ _ (by omega) (by omega)).mono ?_;rintro e w4 ⟨rfl,hb4⟩;have k4:=bBox hb4 w.heap.size (by first | (simp;done) | omega);have hz4:w.heap.size+1≤w4.heap.size:=(by first | exact bsz1 hb4 | (have:=hb4.size;omega));have B4:Below w.heap.size w w4:=bTrans (by first | with_reducible assumption | exact bAlloc (Below.refl _ _) _) hb4)
    | (go_at_call 162;refine (spec_Checksum_c _ _ (by omega)).mono ?_;rw [HN.out];rintro e w5 ⟨rfl,rfl⟩))
  go_ret2
  exact ⟨rfl,by with_reducible assumption⟩
theorem spec_FormatEntry_bad (rm:Bool) (eid id kind:Int) (fr to:ByteArray) (t x y wt p:Int) (w:World) (hf:fr.size≤4194304) (ht:to.size≤4194304) (hv:vldEntry ⟨rm,eid,⟨id,kind,fr,to,⟨t,x,y⟩,wt⟩⟩=false) :
    Calls Tryz.prog 119 #[vEntry rm eid id kind fr to t x y wt,.int .i64 p] w fun e w'=>e=.returned (.tuple #[.string ⟨#[]⟩,.int .i64 0])∧Below w.heap.size w w':=by
  have HV:=Lib.hid hv
  have HP:Hid (inR p 0 65520=inR p 0 65520):=rfl
  clear hv
  go_enter Tryz.func119,Tryz.ntmps119
  go_wp2_with (first | (go_at_call 161;refine (spec_IsValidEntry_c _ _ _ _ _ _ _ _ _ _ _ hf ht).mono ?_;rw [HV.out];rintro e w1 ⟨rfl,hb1⟩;have B1:Below w.heap.size w w1:=bTrans (bAlloc (Below.refl _ _) _) hb1) | (go_at_call 105;refine (l01In_c _ _ _ _).mono ?_;rw [HP.out];rintro e w2 ⟨rfl,rfl⟩))
  all_goals (go_ret2;exact ⟨rfl,by with_reducible assumption⟩)
theorem spec_FormatEntry_far (rm:Bool) (eid id kind:Int) (fr to:ByteArray) (t x y wt p:Int) (w:World) (hf:fr.size≤4194304) (ht:to.size≤4194304) (hv:vldEntry ⟨rm,eid,⟨id,kind,fr,to,⟨t,x,y⟩,wt⟩⟩=true) (hp:inR p 0 65520=false) :
    Calls Tryz.prog 119 #[vEntry rm eid id kind fr to t x y wt,.int .i64 p] w fun e w'=>e=.returned (.tuple #[.string ⟨#[]⟩,.int .i64 0])∧Below w.heap.size w w':=by
  have HV:=Lib.hid hv
  have HP:=Lib.hid hp
  clear hv hp
  go_enter Tryz.func119,Tryz.ntmps119
  go_wp2_with (first | (go_at_call 161;refine (spec_IsValidEntry_c _ _ _ _ _ _ _ _ _ _ _ hf ht).mono ?_;rw [HV.out];rintro e w1 ⟨rfl,hb1⟩;have B1:Below w.heap.size w w1:=bTrans (bAlloc (Below.refl _ _) _) hb1) | (go_at_call 105;refine (l01In_c _ _ _ _).mono ?_;rw [HP.out];rintro e w2 ⟨rfl,rfl⟩))
  all_goals (go_ret2;exact ⟨rfl,by with_reducible assumption⟩)
theorem spec_FormatEntry_c (rm:Bool) (eid id kind:Int) (fr to:ByteArray) (t x y wt p:Int) (w:World) (hwe:-9223372036854775808≤eid∧eid≤9223372036854775807) (hf:fr.size≤4194304) (ht:to.size≤4194304) :
    Calls Tryz.prog 119 #[vEntry rm eid id kind fr to t x y wt,.int .i64 p] w fun e w'=>e=.returned (.tuple #[.string (fmtEnt ⟨rm,eid,⟨id,kind,fr,to,⟨t,x,y⟩,wt⟩⟩ p).1,.int .i64 (fmtEnt ⟨rm,eid,⟨id,kind,fr,to,⟨t,x,y⟩,wt⟩⟩ p).2])∧Below w.heap.size w w':=by
  cases hv:vldEntry ⟨rm,eid,⟨id,kind,fr,to,⟨t,x,y⟩,wt⟩⟩
  · rw [show fmtEnt ⟨rm,eid,⟨id,kind,fr,to,⟨t,x,y⟩,wt⟩⟩ p=(⟨#[]⟩,0) by simp [fmtEnt,hv]]
    exact spec_FormatEntry_bad rm eid id kind fr to t x y wt p w hf ht hv
  cases hp:inR p 0 65520
  · rw [show fmtEnt ⟨rm,eid,⟨id,kind,fr,to,⟨t,x,y⟩,wt⟩⟩ p=(⟨#[]⟩,0) by simp [fmtEnt,hp]]
    exact spec_FormatEntry_far rm eid id kind fr to t x y wt p w hf ht hv hp
  rw [show fmtEnt ⟨rm,eid,⟨id,kind,fr,to,⟨t,x,y⟩,wt⟩⟩ p=(entT ⟨rm,eid,⟨id,kind,fr,to,⟨t,x,y⟩,wt⟩⟩ p,entSum ⟨rm,eid,⟨id,kind,fr,to,⟨t,x,y⟩,wt⟩⟩ p) by simp [fmtEnt,hv,hp]]
  cases rm
  · exact spec_FormatEntry_false eid id kind fr to t x y wt p w hwe hf ht hv hp
  · exact spec_FormatEntry_true eid id kind fr to t x y wt p w hwe hf ht hv hp
end Go.Proofs.YtdfemnffpaopfaaGreatDoor
