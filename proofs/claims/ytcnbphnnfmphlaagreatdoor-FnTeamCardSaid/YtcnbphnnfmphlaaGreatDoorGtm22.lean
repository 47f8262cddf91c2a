/- Texts of this proof. -/
import Derived.Test.YtcnbphnnfmphlaaGreatDoorGtm19
namespace Go.Proofs.YtcnbphnnfmphlaaGreatDoor
open Go.Lib renaming hid → Z5
open Go.Proofs.Tryz
open Go.RowKit
set_option linter.unusedVariables false
set_option linter.unusedSimpArgs false
set_option maxHeartbeats 1000000
set_option maxRecDepth 100000
theorem Z1B(Bz id kind:Int)(fr Z00:ByteArray)(t x y wt p:Int)(w:World)(R9:-9223372036854775808<=Bz/\Bz<=9223372036854775807)(hf:fr.size<=4194304)(ht:Z00.size<=4194304)(hv:Yc ⟨false,Bz,⟨id,kind,fr,Z00,⟨t,x,y⟩,wt⟩⟩=true)(hp:Be p 0 65520=true)(hT:Ct w):
  Calls prog 49 #[Ny false Bz id kind fr Z00 t x y wt,.int .i64 p] w fun e w'=>e=.returned (.tuple #[.string (XP ⟨false,Bz,⟨id,kind,fr,Z00,⟨t,x,y⟩,wt⟩⟩ p),.int .i64 (YH ⟨false,Bz,⟨id,kind,fr,Z00,⟨t,x,y⟩,wt⟩⟩ p)])/\Below w.heap.size w w':=by
 have HV:=Z5 hv;have HP:=Z5 hp;have HT:=Z5 hT;clear hT;obtain⟨p0,p1⟩:=Y8.1 hp;obtain⟨we0,we1⟩:=R9;have Td:=XU ⟨id,kind,fr,Z00,⟨t,x,y⟩,wt⟩;generalize hF:YM ⟨id,kind,fr,Z00,⟨t,x,y⟩,wt⟩=F at Td;have HF:=Z5 hF;clear hF;obtain⟨sr,er,zr,cr⟩:=cat ⟨#[114,101,109,111,118,101,32]⟩ (Ya Bz) 7 21 AO (Y7 o_ o_) o_;obtain⟨s0,e0,z0,c0⟩:=cat ⟨#[97,100,100,32]⟩ F 4 116 AO Td o_
 have hs:s0.data.toList=Ff ⟨false,Bz,⟨id,kind,fr,Z00,⟨t,x,y⟩,wt⟩⟩:=by
  have lK:Zy ⟨id,kind,fr,Z00,⟨t,x,y⟩,wt⟩=true:=by simp[Yc]at hv;exact hv.2
  rw[<- e0.out,<- HF.out];simp[Ff,ByteArray.data_append,JR lK]
 have zs:s0.size<=120:=by omega
 obtain⟨a0,f0,y0,d0⟩:=cat (Ya p) ⟨#[32]⟩ 21 1 (Y7 o_ o_) AO o_;obtain⟨a1,f1,y1,d1⟩:=cat a0 s0 22 120 y0 zs o_;obtain⟨n0,n1⟩:=iJ a1;generalize hn:LD a1=n at n0 n1;have HN:=Z5 hn;obtain⟨b0,g0,x0,q0⟩:=cat s0 ⟨#[32,35]⟩ 120 2 zs AO o_;obtain⟨b1,g1,x1,q1⟩:=cat b0 (Ya n) 122 21 x0 (Y7 o_ o_) o_;obtain⟨b2,g2,x2,q2⟩:=cat b1 ⟨#[10]⟩ 143 1 x1 AO o_;obtain⟨r1,r2⟩:=Zkp hs f0.out f1.out hn g0.out g1.out g2.out;rw[<- r1,<- r2];clear hn r1 r2 hs hv hp z0 Td zs x0 x1 x2 y0;go_enter func49,ntmps49
 go_wp2_with (first
  |(go_at_call 48;refine(YE _ _ _ _ _ _ _ _ _ _ _ hf ht).mono ?_;rw[HV.out];rintro e w1 ⟨rfl,hb1⟩;have k1:=JT hb1 w.heap.size (by first |(simp;done)| omega);have hz1:w.heap.size+1<=w1.heap.size:=(by first|exact LC hb1 |(have:=hb1.size;omega));have B1:Below w.heap.size w w1:=Zg (by first|with_reducible assumption|exact Ze (Below.refl _ _) _) hb1)
  |(go_at_call 52;refine(YF _ _ _ _ _ _ _ _ _ hf ht (HT.out.below (by with_reducible assumption))).mono ?_;rw[HF.out];rintro e w3 ⟨rfl,hb3⟩;have k3:=JT hb3 w.heap.size (by first |(simp;done)| omega);have hz3:w.heap.size+1<=w3.heap.size:=(by first|exact LC hb3 |(have:=hb3.size;omega));have B3:Below w.heap.size w w3:=Zg (by first|with_reducible assumption|exact Ze (Below.refl _ _) _) hb3)
  |(go_at_call 51;refine(ZP _ _ o_ o_ (HT.out.below (by with_reducible assumption))).mono ?_;rintro e w4 ⟨rfl,hb4⟩;have k4:=JT hb4 w.heap.size (by first |(simp;done)| omega);have Ux:w.heap.size+1<=w4.heap.size:=(by first|exact LC hb4 |(have:=hb4.size;omega));have B4:Below w.heap.size w w4:=Zg (by first|with_reducible assumption|exact Ze (Below.refl _ _) _) hb4)
  |(go_at_call 70;refine(XB _ _ o_).mono ?_;rw[HN.out];rintro e w5 ⟨rfl,rfl⟩))
 go_ret2;exact⟨rfl,by with_reducible assumption⟩
theorem Z20(Bz id kind:Int)(fr Z00:ByteArray)(t x y wt p:Int)(w:World)(R9:-9223372036854775808<=Bz/\Bz<=9223372036854775807)(hf:fr.size<=4194304)(ht:Z00.size<=4194304)(hv:Yc ⟨true,Bz,⟨id,kind,fr,Z00,⟨t,x,y⟩,wt⟩⟩=true)(hp:Be p 0 65520=true)(hT:Ct w):
  Calls prog 49 #[Ny true Bz id kind fr Z00 t x y wt,.int .i64 p] w fun e w'=>e=.returned (.tuple #[.string (XP ⟨true,Bz,⟨id,kind,fr,Z00,⟨t,x,y⟩,wt⟩⟩ p),.int .i64 (YH ⟨true,Bz,⟨id,kind,fr,Z00,⟨t,x,y⟩,wt⟩⟩ p)])/\Below w.heap.size w w':=by
 have HV:=Z5 hv;have HP:=Z5 hp;have HT:=Z5 hT;clear hT;obtain⟨p0,p1⟩:=Y8.1 hp;obtain⟨we0,we1⟩:=R9;have Td:=XU ⟨id,kind,fr,Z00,⟨t,x,y⟩,wt⟩;generalize hF:YM ⟨id,kind,fr,Z00,⟨t,x,y⟩,wt⟩=F at Td;have HF:=Z5 hF;clear hF;obtain⟨sa,ea,za,ca⟩:=cat ⟨#[97,100,100,32]⟩ F 4 116 AO Td o_;obtain⟨s0,e0,z0,c0⟩:=cat ⟨#[114,101,109,111,118,101,32]⟩ (Ya Bz) 7 21 AO (Y7 o_ o_) o_
 have hs:s0.data.toList=Ff ⟨true,Bz,⟨id,kind,fr,Z00,⟨t,x,y⟩,wt⟩⟩:=by
  rw[<- e0.out];simp[Ff,Ya,ByteArray.data_append]
 have zs:s0.size<=120:=by omega
 obtain⟨a0,f0,y0,d0⟩:=cat (Ya p) ⟨#[32]⟩ 21 1 (Y7 o_ o_) AO o_;obtain⟨a1,f1,y1,d1⟩:=cat a0 s0 22 120 y0 zs o_;obtain⟨n0,n1⟩:=iJ a1;generalize hn:LD a1=n at n0 n1;have HN:=Z5 hn;obtain⟨b0,g0,x0,q0⟩:=cat s0 ⟨#[32,35]⟩ 120 2 zs AO o_;obtain⟨b1,g1,x1,q1⟩:=cat b0 (Ya n) 122 21 x0 (Y7 o_ o_) o_;obtain⟨b2,g2,x2,q2⟩:=cat b1 ⟨#[10]⟩ 143 1 x1 AO o_;obtain⟨r1,r2⟩:=Zkp hs f0.out f1.out hn g0.out g1.out g2.out;rw[<- r1,<- r2];clear hn r1 r2 hs hv hp z0 Td zs x0 x1 x2 y0;go_enter func49,ntmps49
 go_wp2_with (first
  |(go_at_call 48;refine(YE _ _ _ _ _ _ _ _ _ _ _ hf ht).mono ?_;rw[HV.out];rintro e w1 ⟨rfl,hb1⟩;have k1:=JT hb1 w.heap.size (by first |(simp;done)| omega);have hz1:w.heap.size+1<=w1.heap.size:=(by first|exact LC hb1 |(have:=hb1.size;omega));have B1:Below w.heap.size w w1:=Zg (by first|with_reducible assumption|exact Ze (Below.refl _ _) _) hb1)
  |(go_at_call 52;refine(YF _ _ _ _ _ _ _ _ _ hf ht (HT.out.below (by with_reducible assumption))).mono ?_;rw[HF.out];rintro e w3 ⟨rfl,hb3⟩;have k3:=JT hb3 w.heap.size (by first |(simp;done)| omega);have hz3:w.heap.size+1<=w3.heap.size:=(by first|exact LC hb3 |(have:=hb3.size;omega));have B3:Below w.heap.size w w3:=Zg (by first|with_reducible assumption|exact Ze (Below.refl _ _) _) hb3)
  |(go_at_call 51;refine(ZP _ _ o_ o_ (HT.out.below (by with_reducible assumption))).mono ?_;rintro e w4 ⟨rfl,hb4⟩;have k4:=JT hb4 w.heap.size (by first |(simp;done)| omega);have Ux:w.heap.size+1<=w4.heap.size:=(by first|exact LC hb4 |(have:=hb4.size;omega));have B4:Below w.heap.size w w4:=Zg (by first|with_reducible assumption|exact Ze (Below.refl _ _) _) hb4)
  |(go_at_call 70;refine(XB _ _ o_).mono ?_;rw[HN.out];rintro e w5 ⟨rfl,rfl⟩))
 go_ret2;exact⟨rfl,by with_reducible assumption⟩
theorem Z2Q(rm:Bool)(Bz id kind:Int)(fr Z00:ByteArray)(t x y wt p:Int)(w:World)(hf:fr.size<=4194304)(ht:Z00.size<=4194304)(hv:Yc ⟨rm,Bz,⟨id,kind,fr,Z00,⟨t,x,y⟩,wt⟩⟩=false):
  Calls prog 49 #[Ny rm Bz id kind fr Z00 t x y wt,.int .i64 p] w fun e w'=>e=.returned (.tuple #[.string ⟨#[]⟩,.int .i64 0])/\Below w.heap.size w w':=by
 have HV:=Z5 hv;have HP:Hid (Be p 0 65520=Be p 0 65520):=rfl;clear hv;go_enter func49,ntmps49;go_wp2_with (first |(go_at_call 48;refine(YE _ _ _ _ _ _ _ _ _ _ _ hf ht).mono ?_;rw[HV.out];rintro e w1 ⟨rfl,hb1⟩;have B1:Below w.heap.size w w1:=Zg (Ze (Below.refl _ _) _) hb1));all_goals (go_ret2;exact⟨rfl,by with_reducible assumption⟩)
theorem Z2P(rm:Bool)(Bz id kind:Int)(fr Z00:ByteArray)(t x y wt p:Int)(w:World)(hf:fr.size<=4194304)(ht:Z00.size<=4194304)(hv:Yc ⟨rm,Bz,⟨id,kind,fr,Z00,⟨t,x,y⟩,wt⟩⟩=true)(hp:Be p 0 65520=false):
  Calls prog 49 #[Ny rm Bz id kind fr Z00 t x y wt,.int .i64 p] w fun e w'=>e=.returned (.tuple #[.string ⟨#[]⟩,.int .i64 0])/\Below w.heap.size w w':=by
 have HV:=Z5 hv;have HP:=Z5 hp
 have hq:decide (p<0)=true∨(decide (p<0)=false/\decide (65520<p)=true):=by
  have:¬(0<=p/\p<=65520):=by simpa [Be]using hp
  simp;omega
 clear hv hp;rcases hq with hq |⟨hq,hq2⟩
 all_goals
  go_enter func49,ntmps49;go_wp2_with (first |(go_at_call 48;refine(YE _ _ _ _ _ _ _ _ _ _ _ hf ht).mono ?_;rw[HV.out];rintro e w1 ⟨rfl,hb1⟩;have B1:Below w.heap.size w w1:=Zg (Ze (Below.refl _ _) _) hb1));all_goals (go_ret2;exact⟨rfl,by with_reducible assumption⟩)
theorem XA(rm:Bool)(Bz id kind:Int)(fr Z00:ByteArray)(t x y wt p:Int)(w:World)(R9:-9223372036854775808<=Bz/\Bz<=9223372036854775807)(hf:fr.size<=4194304)(ht:Z00.size<=4194304)(hT:Ct w):
  Calls prog 49 #[Ny rm Bz id kind fr Z00 t x y wt,.int .i64 p] w fun e w'=>e=.returned (.tuple #[.string (XO ⟨rm,Bz,⟨id,kind,fr,Z00,⟨t,x,y⟩,wt⟩⟩ p).1,.int .i64 (XO ⟨rm,Bz,⟨id,kind,fr,Z00,⟨t,x,y⟩,wt⟩⟩ p).2])/\Below w.heap.size w w':=by
 cases hv:Yc ⟨rm,Bz,⟨id,kind,fr,Z00,⟨t,x,y⟩,wt⟩⟩
 .rw[show XO ⟨rm,Bz,⟨id,kind,fr,Z00,⟨t,x,y⟩,wt⟩⟩ p=(⟨#[]⟩,0)by simp[XO,hv]];exact Z2Q rm Bz id kind fr Z00 t x y wt p w hf ht hv
 cases hp:Be p 0 65520
 .rw[show XO ⟨rm,Bz,⟨id,kind,fr,Z00,⟨t,x,y⟩,wt⟩⟩ p=(⟨#[]⟩,0)by simp[XO,hp]];exact Z2P rm Bz id kind fr Z00 t x y wt p w hf ht hv hp
 rw[show XO ⟨rm,Bz,⟨id,kind,fr,Z00,⟨t,x,y⟩,wt⟩⟩ p=(XP ⟨rm,Bz,⟨id,kind,fr,Z00,⟨t,x,y⟩,wt⟩⟩ p,YH ⟨rm,Bz,⟨id,kind,fr,Z00,⟨t,x,y⟩,wt⟩⟩ p)by simp[XO,hv,hp]];cases rm
 .exact Z1B Bz id kind fr Z00 t x y wt p w R9 hf ht hv hp hT
 .exact Z20 Bz id kind fr Z00 t x y wt p w R9 hf ht hv hp hT
end Go.Proofs.YtcnbphnnfmphlaaGreatDoor
