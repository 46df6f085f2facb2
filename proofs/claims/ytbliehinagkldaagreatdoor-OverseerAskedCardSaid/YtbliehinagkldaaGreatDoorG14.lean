/- Lemmas and walks on which the claims of this seat lean (names and blanks made short by a program): OLwE OLwF ORef12c ORef12d. -/
import Derived.Test.YtbliehinagkldaaGreatDoorG02
import Derived.Test.YtbliehinagkldaaGreatDoorG03
import Derived.Test.YtbliehinagkldaaGreatDoorG04
import Derived.Test.YtbliehinagkldaaGreatDoorG06
import Derived.Test.YtbliehinagkldaaGreatDoorG07
import Derived.Test.YtbliehinagkldaaGreatDoorG10
import Derived.Test.YtbliehinagkldaaGreatDoorG12
import Derived.Test.YtbliehinagkldaaGreatDoorG13

set_option linter.all false
set_option maxRecDepth 100000
set_option maxHeartbeats 16000000
open Go.Lib renaming hid → fe6
open List renaming setIfInBounds_toArray → fe7, getElem?_cons_zero → fe8, getElem?_cons_succ → fe9, getElem?_toArray → ff0, set_cons_zero → ff1, set_cons_succ → ff2, length_append → ff4, drop_succ_cons → ff5, drop_zero → ff6, length_cons → ff8, nil_append → ff9, length_nil → fg1, cons_append → fg2, push_toArray → fg3, length_take → fg6, take_of_length_le → fg7
open Array renaming replicate_zero → fg8, replicate_succ → fg9
open Nat renaming le_refl → fh0, le_trans → fh1, add_zero → fh2, zero_le → fh3, ne_of_lt → fh5, reduceAdd → fh6, reduceSub → fh7
namespace Go.Proofs.YtbliehinagkldaaGreatDoor
section
open Go.RowKit
attribute [local go_sem] j4.drew j4.alloc j4.drewN WB.holds Oper.semAt_some Q9 O1 J7
def S9:G5:=⟨[⟨0,3,0⟩,⟨0,5,0⟩,⟨1,2,1⟩,⟨1,0,0⟩],[[8,9,2,4],[6,9,2,6],[12,7,2,3],[9,9,4,9]],[5,3],6⟩
def exO:D5:=⟨exG,S9⟩
def j5.del (H:j5) (g:Nat):j5:=fun b=>if b=g then none else H b
theorem Ext.del {w0 w:World} {H0 H:j5} (x:Ext w0 H0 w H) {g:Nat} (hg:w0.heap.size≤g):Ext w0 H0 w (H.del g):=
 ⟨x.below,⟨fun b o e=>by
   unfold j5.del at e
   split at e
   ·cases e
   ·exact x.holds.at_ b o e⟩,fun b hb=>by
   unfold j5.del
   rw[if_neg (by omega)]
   exact x.same b hb⟩
theorem j5.cv6 (H:j5) (g:Nat):H.del g g=none:=by unfold j5.del;rw[if_pos rfl]
theorem j5.bx6 (H:j5) {g b:Nat} (h:b≠g):H.del g b=H b:=by unfold j5.del;rw[if_neg h]
abbrev Z4:Array Value:= #[.slice none 0 0,.slice none 0 0,.slice none 0 0,.int .i64 0]
theorem bR0 (H:j5) (m:Mld) (h1:K8 m.pg) (h2:K8 m.us) (h3:K8 m.br):Enc.rep H m [.int .i64 m.pg,.int .i64 m.us,.int .i64 m.br]:=⟨rfl,h1,h2,h3⟩
theorem dL3 {w:World} {H:j5} (hw:j4 H w):∃H2,D8 H H2∧Ext w H (((((((w.alloc (.cells #[.int .i64 0,.int .i64 3,.int .i64 0,.int .i64 0,.int .i64 5,.int .i64 0,.int .i64 1,.int .i64 2,.int .i64 1,.int .i64 1,.int .i64 0,.int .i64 0] 96)).alloc (.cells #[.int .i64 8,.int .i64 9,.int .i64 2,.int .i64 4] 3)).alloc (.cells #[.int .i64 6,.int .i64 9,.int .i64 2,.int .i64 6] 3)).alloc (.cells #[.int .i64 12,.int .i64 7,.int .i64 2,.int .i64 3] 3)).alloc (.cells #[.int .i64 9,.int .i64 9,.int .i64 4,.int .i64 9] 3)).alloc (.cells #[.slice (some ⟨w.heap.size+1,0,none⟩) 4 4,.slice (some ⟨w.heap.size+1+1,0,none⟩) 4 4,.slice (some ⟨w.heap.size+1+1+1,0,none⟩) 4 4,.slice (some ⟨w.heap.size+1+1+1+1,0,none⟩) 4 4] 24)).alloc (.cells #[.int .i64 5,.int .i64 3] 3)) H2∧Sl H2 (.slice (some ⟨w.heap.size,0,none⟩) 4 4) S9.mo∧Sl H2 (.slice (some ⟨w.heap.size+1+1+1+1+1,0,none⟩) 4 4) S9.wo∧Sl H2 (.slice (some ⟨w.heap.size+1+1+1+1+1+1,0,none⟩) 2 2) S9.wa:=by
 obtain⟨H1,l1,x1,s1⟩:=Ext.lit (xs:=S9.mo) (cs:=[.int .i64 0,.int .i64 3,.int .i64 0,.int .i64 0,.int .i64 5,.int .i64 0,.int .i64 1,.int .i64 2,.int .i64 1,.int .i64 1,.int .i64 0,.int .i64 0]) (Ext.refl hw) (show P6 H S9.mo _ from⟨_,_,rfl,bR0 H ⟨0,3,0⟩ (by constructor<;>decide) (by constructor<;>decide) (by constructor<;>decide),_,_,rfl,bR0 H ⟨0,5,0⟩ (by constructor<;>decide) (by constructor<;>decide) (by constructor<;>decide),_,_,rfl,bR0 H ⟨1,2,1⟩ (by constructor<;>decide) (by constructor<;>decide) (by constructor<;>decide),_,[],rfl,bR0 H ⟨1,0,0⟩ (by constructor<;>decide) (by constructor<;>decide) (by constructor<;>decide),rfl⟩) 96 (by simp[S9,Enc.M4]) (by simp[S9])
 obtain⟨H2,l2,x2,s2⟩:=Ext.lit (xs:=([8,9,2,4]:List Int)) (cs:=[.int .i64 8,.int .i64 9,.int .i64 2,.int .i64 4]) x1 (af6.2 ⟨rfl,fun x hx=>by simp at hx;unfold K8;omega⟩) 3 (by simp[Enc.M4]) (by simp)
 obtain⟨H3,l3,x3,s3⟩:=Ext.lit (xs:=([6,9,2,6]:List Int)) (cs:=[.int .i64 6,.int .i64 9,.int .i64 2,.int .i64 6]) x2 (af6.2 ⟨rfl,fun x hx=>by simp at hx;unfold K8;omega⟩) 3 (by simp[Enc.M4]) (by simp)
 obtain⟨H4,l4,x4,s4⟩:=Ext.lit (xs:=([12,7,2,3]:List Int)) (cs:=[.int .i64 12,.int .i64 7,.int .i64 2,.int .i64 3]) x3 (af6.2 ⟨rfl,fun x hx=>by simp at hx;unfold K8;omega⟩) 3 (by simp[Enc.M4]) (by simp)
 obtain⟨H5,l5,x5,s5⟩:=Ext.lit (xs:=([9,9,4,9]:List Int)) (cs:=[.int .i64 9,.int .i64 9,.int .i64 4,.int .i64 9]) x4 (af6.2 ⟨rfl,fun x hx=>by simp at hx;unfold K8;omega⟩) 3 (by simp[Enc.M4]) (by simp)
 have q2:=((s2.mono l3).mono l4).mono l5
 have q3:=(s3.mono l4).mono l5
 have q4:=s4.mono l5
 simp only[aH6,ff8,fg1,Nat.zero_add,fh6]at q2 q3 q4 s5
 obtain⟨H6,l6,x6,s6⟩:=Ext.lit (xs:=S9.wo) (cs:=[.slice (some ⟨w.heap.size+1,0,none⟩) 4 4,.slice (some ⟨w.heap.size+1+1,0,none⟩) 4 4,.slice (some ⟨w.heap.size+1+1+1,0,none⟩) 4 4,.slice (some ⟨w.heap.size+1+1+1+1,0,none⟩) 4 4]) x5 (show P6 H5 S9.wo _ from⟨[_],_,rfl,⟨_,rfl,q2⟩,[_],_,rfl,⟨_,rfl,q3⟩,[_],_,rfl,⟨_,rfl,q4⟩,[_],[],rfl,⟨_,rfl,s5⟩,rfl⟩) 24 (by simp[S9,Enc.M4]) (by simp[S9])
 obtain⟨H7,l7,x7,s7⟩:=Ext.lit (xs:=S9.wa) (cs:=[.int .i64 5,.int .i64 3]) x6 (af6.2 ⟨rfl,fun x hx=>by simp[S9]at hx;unfold K8;omega⟩) 3 (by simp[S9,Enc.M4]) (by simp[S9])
 simp only[aH6]at s6 s7
 exact⟨H7,(((((l1.trans l2).trans l3).trans l4).trans l5).trans l6).trans l7,x7,(((((s1.mono l2).mono l3).mono l4).mono l5).mono l6).mono l7,s6.mono l7,s7⟩
theorem cv7 (H:j5) (w:World) (hw:j4 H w):
 Calls Tryz.prog 83 #[] w (Post w H fun v H'=>∃um uo ua a0 n0 c0 a1 n1 c1 a2 n2 c2 k,v= .tuple #[aq3 um uo ua S9,.agg #[.slice a0 n0 c0,.slice a1 n1 c1,.slice a2 n2 c2,.int .i64 k]]∧Sho H' um uo ua S9):=by
 go_enter Tryz.func83,Tryz.ntmps83
 go_upto_region 1 with fail
 have c0:=(J4.new (Ext.refl hw) Z4 30).alloc (.cells Z4 30)
 have c1:=J4.new (J4.new (Ext.refl hw) Z4 30).x Z4 30
 rw[World.size_alloc]at c1
 generalize(w.alloc (.cells Z4 30)).alloc (.cells Z4 30)=W0 at*
 obtain⟨R1,hR1⟩:∃R1,w.heap.size+1=R1:=⟨_,rfl⟩
 rw[hR1]at c1 ⊢
 have aC9:w.heap.size≠R1:=by omega
 have x0:=c0.x
 obtain⟨R0,hR0⟩:∃R0,w.heap.size=R0:=⟨_,rfl⟩
 have hgR:w.heap.size≤R0:=Nat.le_of_eq hR0
 rw[hR0]at c0 aC9 ⊢
 clear hR1
 have bR1:Hid True:=fe6 trivial
 go_upto_region 2 with(first
  |(have hgd:=b3;clear hgd;go_at_call 138;refine(aZ8 _ _ _ _).mono ?_;rintro e w4 ⟨rfl,b4⟩;have c04:=((((c0.below b1)).below b2).below b3).below b4;have e0:∀(o1 o2 o3 o4 o5 o6 o7:Obj),(((((((w4.alloc o1).alloc o2).alloc o3).alloc o4).alloc o5).alloc o6).alloc o7).cell? ⟨R0,0,none⟩=some (.slice none 0 0):=fun o1 o2 o3 o4 o5 o6 o7=>(((((((c04.alloc o1).alloc o2).alloc o3).alloc o4).alloc o5).alloc o6).alloc o7).cell 0;have e1:∀(o1 o2 o3 o4 o5 o6 o7:Obj),(((((((w4.alloc o1).alloc o2).alloc o3).alloc o4).alloc o5).alloc o6).alloc o7).cell? ⟨R0,1,none⟩=some (.slice none 0 0):=fun o1 o2 o3 o4 o5 o6 o7=>(((((((c04.alloc o1).alloc o2).alloc o3).alloc o4).alloc o5).alloc o6).alloc o7).cell 1;have e2:∀(o1 o2 o3 o4 o5 o6 o7:Obj),(((((((w4.alloc o1).alloc o2).alloc o3).alloc o4).alloc o5).alloc o6).alloc o7).cell? ⟨R0,2,none⟩=some (.slice none 0 0):=fun o1 o2 o3 o4 o5 o6 o7=>(((((((c04.alloc o1).alloc o2).alloc o3).alloc o4).alloc o5).alloc o6).alloc o7).cell 2;have e3:∀(o1 o2 o3 o4 o5 o6 o7:Obj),(((((((w4.alloc o1).alloc o2).alloc o3).alloc o4).alloc o5).alloc o6).alloc o7).cell? ⟨R0,3,none⟩=some (.int .i64 0):=fun o1 o2 o3 o4 o5 o6 o7=>(((((((c04.alloc o1).alloc o2).alloc o3).alloc o4).alloc o5).alloc o6).alloc o7).cell 3;have ef:∀(o1 o2 o3 o4 o5 o6 o7:Obj) (k:Nat),(((((((w4.alloc o1).alloc o2).alloc o3).alloc o4).alloc o5).alloc o6).alloc o7).frozen? ⟨R0,k,none⟩=false:=fun o1 o2 o3 o4 o5 o6 o7 k=>(((((((c04.alloc o1).alloc o2).alloc o3).alloc o4).alloc o5).alloc o6).alloc o7).fz k)
  |(have hgd:=b2;clear hgd;go_at_call 138;refine(aZ8 _ _ _ _).mono ?_;rintro e w3 ⟨rfl,b3⟩)
  |(have hgd:=b1;clear hgd;go_at_call 138;refine(aZ8 _ _ _ _).mono ?_;rintro e w2 ⟨rfl,b2⟩)
  |(have hgd:=bR1;clear hgd;go_at_call 138;refine(aZ8 _ _ _ _).mono ?_;rintro e w1 ⟨rfl,b1⟩;clear bR1))
 obtain⟨H5,l5,x5,sm,so,sa⟩:=dL3 c04.x.holds
 have c05:=c04.ext x5
 have c15:=(((((c1.below b1).below b2).below b3).below b4)).ext x5
 generalize(((((((w4.alloc (.cells #[.int .i64 0,.int .i64 3,.int .i64 0,.int .i64 0,.int .i64 5,.int .i64 0,.int .i64 1,.int .i64 2,.int .i64 1,.int .i64 1,.int .i64 0,.int .i64 0] 96)).alloc (.cells #[.int .i64 8,.int .i64 9,.int .i64 2,.int .i64 4] 3)).alloc (.cells #[.int .i64 6,.int .i64 9,.int .i64 2,.int .i64 6] 3)).alloc (.cells #[.int .i64 12,.int .i64 7,.int .i64 2,.int .i64 3] 3)).alloc (.cells #[.int .i64 9,.int .i64 9,.int .i64 4,.int .i64 9] 3)).alloc (.cells #[.slice (some ⟨w4.heap.size+1,0,none⟩) 4 4,.slice (some ⟨w4.heap.size+1+1,0,none⟩) 4 4,.slice (some ⟨w4.heap.size+1+1+1,0,none⟩) 4 4,.slice (some ⟨w4.heap.size+1+1+1+1,0,none⟩) 4 4] 24)).alloc (.cells #[.int .i64 5,.int .i64 3] 3))=w5 at*
 generalize(.slice (some ⟨w4.heap.size,0,none⟩) 4 4:Value)=vm at*
 generalize(.slice (some ⟨w4.heap.size+1+1+1+1+1,0,none⟩) 4 4:Value)=vo at*
 generalize(.slice (some ⟨w4.heap.size+1+1+1+1+1+1,0,none⟩) 2 2:Value)=va at*
 have c06:=(((c05.set 0 vm).set 1 vo).set 2 va).set 3 (.int .i64 6)
 have c16:=(((c15.other 0 vm aC9 c05.ob c05.oH).other 1 vo aC9 c05.ob c05.oH).other 2 va aC9 c05.ob c05.oH).other 3 (.int .i64 6) aC9 c05.ob c05.oH
 simp only[fe7,ff1,ff2]at c06
 generalize(((w5.setCell ⟨R0,0,none⟩ vm).setCell ⟨R0,1,none⟩ vo).setCell ⟨R0,2,none⟩ va).setCell ⟨R0,3,none⟩ (.int .i64 6)=w6 at*
 clear c05 c15 x5 c04 c1 c0 e0 e1 e2 e3 ef b1 b2 b3 b4 x0
 have x6:=c06.x
 obtain⟨pm,qm,rfl,_,_⟩:=sm.form
 obtain⟨po,qo,rfl,_,_⟩:=so.form
 obtain⟨pa,qa,rfl,_,_⟩:=sa.form
 have hsh:Sho H5 (.slice pm S9.mo.length qm) (.slice po S9.wo.length qo) (.slice pa S9.wa.length qa) S9:=⟨sm,so,sa,by unfold K8;decide⟩
 have cC:=fun(W:World) (hW:j4 H5 W)=>ce2 _ _ _ S9 (by decide) H5 W hW hsh
 replace cC:=fe6 cC
 have d0:=c06.cell 0
 have d1:=c06.cell 1
 have d2:=c06.cell 2
 have d3:=c06.cell 3
 have dl:=c06.lt
 simp at d0 d1 d2 d3
 go_upto_region 3 with(go_at_call 73;go_must (refine(cC.out _ x6.holds).mono ?_);rintro e w7 ⟨_,H7,rfl,y7,um,uo,ua,rfl,sh7,hfr⟩;obtain⟨am,bm,rfl,_,_⟩:=sh7.m.form;obtain⟨ao,bo,rfl,_,_⟩:=sh7.o.form;obtain⟨g,og,cg,rfl,_,hcg⟩:=sh7.a.int (show At S9.wa 0 5 from rfl);have c17:=c16.ext y7;have c07:=c06.ext y7;have e0:=c17.cell 0;have e1:=c17.cell 1;have e2:=c17.cell 2;have e3:=c17.cell 3;have ef:=c17.fz;simp at e0 e1 e2 e3)
 obtain⟨ea2,cur,te,hgH⟩:=hfr (by decide) g rfl
 have c18:=((((c17.set 0 (.slice am S9.mo.length bm)).set 1 (.slice ao S9.wo.length bo)).set 2 (.slice (some ⟨g,og,none⟩) S9.wa.length cg)).set 3 (.int .i64 S9.fr))
 have c08:=((((c07.other 0 (.slice am S9.mo.length bm) (Ne.symm aC9) c17.ob c17.oH).other 1 (.slice ao S9.wo.length bo) (Ne.symm aC9) c17.ob c17.oH).other 2 (.slice (some ⟨g,og,none⟩) S9.wa.length cg) (Ne.symm aC9) c17.ob c17.oH).other 3 (.int .i64 S9.fr) (Ne.symm aC9) c17.ob c17.oH)
 simp only[fe7,ff1,ff2]at c18
 have l57:=y7.le x6.holds
 have hg1:g≠R1:=by have:=c16.lt;omega
 have hg0:g≠R0:=by omega
 have hgw:w.heap.size≤g:=fh1 x6.below.size ea2
 have l5d:D8 H5 (H7.del g):=fun b o e=>by
  have hb:=(Array.getElem?_eq_some_iff.1 (x6.holds.at_ b o e)).1
  rw[j5.bx6 H7 (by omega)]
  exact l57 b o e
 clear c07 c17 y7 d0 d1 d2 d3 dl e0 e1 e2 e3 ef hfr cC c16 c06 x6 ea2
 generalize((((w7.setCell ⟨R1,0,none⟩ (.slice am S9.mo.length bm)).setCell ⟨R1,1,none⟩ (.slice ao S9.wo.length bo)).setCell ⟨R1,2,none⟩ (.slice (some ⟨g,og,none⟩) S9.wa.length cg)).setCell ⟨R1,3,none⟩ (.int .i64 S9.fr))=w8 at*
 have x8:=c18.x
 have hgf:=fun k=>Lib.frozen_of_heap (x8.holds.at_ _ _ hgH) k
 have hgc:=hcg _ x8.holds
 simp only[fh2]at hgc
 have m2:=c18.cell 2
 simp at m2
 have h2l:(0:Int)<(S9.wa.length:Int):=by decide
 go_upto_region 4 with fail
 have xD:=x8.del hgw
 have c0D:J4 w H R0 30 w8 (H7.del g) _:=⟨xD,c08.at_,c08.ob,(j5.bx6 H7 (Ne.symm hg0)).trans c08.oH⟩
 have c1D:J4 w H R1 30 w8 (H7.del g) _:=⟨xD,c18.at_,c18.ob,(j5.bx6 H7 (Ne.symm hg1)).trans c18.oH⟩
 have c09:=c0D.other og (.int .i64 6) hg0 hgw (j5.cv6 H7 g)
 have c19:=c1D.other og (.int .i64 6) hg1 hgw (j5.cv6 H7 g)
 have ez3:=hsh.mono l5d
 generalize w8.setCell ⟨g,og,none⟩ (.int .i64 6)=w9 at*
 have a0:=c09.cell 0
 have a1:=c09.cell 1
 have a2:=c09.cell 2
 have a3:=c09.cell 3
 have af:=c09.fz
 have b0:=c19.cell 0
 have b1:=c19.cell 1
 have b2:=c19.cell 2
 have b3:=c19.cell 3
 have bf:=c19.fz
 simp at a0 a1 a2 a3 b0 b1 b2 b3
 have cF0:=(((((((((c09.set 0 (.slice pm S9.mo.length qm)).set 1 (.slice po S9.wo.length qo)).set 2 (.slice pa S9.wa.length qa)).set 3 (.int .i64 6)).other 0 (.slice am S9.mo.length bm) (Ne.symm aC9) c19.ob c19.oH).other 1 (.slice ao S9.wo.length bo) (Ne.symm aC9) c19.ob c19.oH).other 2 (.slice (some ⟨g,og,none⟩) S9.wa.length cg) (Ne.symm aC9) c19.ob c19.oH).other 3 (.int .i64 S9.fr) (Ne.symm aC9) c19.ob c19.oH)).drew
 have cF1:=(((((((((c19.other 0 (.slice pm S9.mo.length qm) aC9 c09.ob c09.oH).other 1 (.slice po S9.wo.length qo) aC9 c09.ob c09.oH).other 2 (.slice pa S9.wa.length qa) aC9 c09.ob c09.oH).other 3 (.int .i64 6) aC9 c09.ob c09.oH).set 0 (.slice am S9.mo.length bm)).set 1 (.slice ao S9.wo.length bo)).set 2 (.slice (some ⟨g,og,none⟩) S9.wa.length cg)).set 3 (.int .i64 S9.fr))).drew
 simp only[fe7,ff1,ff2]at cF0 cF1
 clear hgc hgf m2 c0D c1D c08 c18 x8 hcg hgH
 go_wp2
 go_region
 all_goals go_wp2
 refine bodyPost_ret (aR2 rfl _ _ R0 R1 30 30 _ _ (0,0) (0,0) _ _ rfl rfl cF0.at_ cF1.at_ Tryz.underlying30 rfl (by kernel_rfl) Tryz.underlying30 rfl (by kernel_rfl)) rfl ?_
 exact⟨_,_,rfl,cF1.x,_,_,_,_,_,_,_,_,_,_,_,_,_,rfl,ez3⟩
end
section
open Go.RowKit
def exL:List ByteArray:=[⟨#[115,117,114,101]⟩,⟨#[115,116,111,112,115,32,48,32,49]⟩,⟨#[116,111,108,100]⟩,⟨#[116,114,97,105,110,32,52,48]⟩,⟨#[98,117,110,100,108,101,32,50,32,50,32,49]⟩,⟨#[108,105,110,101,32,49,32,105,115,32,110,111,116]⟩,⟨#[108,105,110,101,32,51,32,105,115,32,110,111,116]⟩,⟨#[97,116,32,51,32,116,111,108,100]⟩,⟨#[98,114,111,107,101,32,51]⟩,⟨#[99,97,115,116,32,51]⟩,⟨#[108,105,110,101,32,56,32,105,115,32,99,97,115,116,32,51]⟩,⟨#[115,97,105,108]⟩]
def exA:List ByteArray:=[⟨#[49]⟩,⟨#[111,107]⟩,⟨#[48]⟩,⟨#[111,107]⟩,⟨#[111,107]⟩,⟨#[111,107,32,49,58,110,111]⟩,⟨#[111,107,32,51,58,110,111,32,52,58,110,111]⟩,⟨#[110,111,116,104,105,110,103]⟩,⟨#[111,107]⟩,⟨#[110,111]⟩,⟨#[111,107,32,57,58,111,107]⟩,⟨#[119,104,97,116]⟩]
def exK:List ByteArray:=[⟨#[99,97,115,116,32,51]⟩,⟨#[99,97,115,116,32,51]⟩]
theorem dL4:Y1 exO exL=exA∧O0 exO exL=exK∧aJ8 exO exL=0∧(V5 exO exL).h.ms.length=2∧(V5 exO exL).s.mo.length=4∧((V5 exO exL).h.ms.getD 0 default).s=0∧(V5 exO exL).h.ts.length=2∧((V5 exO exL).s.mo.getD 3 default).us=2:=by decide+kernel
attribute [local go_sem] j4.drew j4.alloc j4.drewN WB.holds Oper.semAt_some Q9 O1 J7
theorem cg6 (H:j5) (w:World) (hw:j4 H w):Calls Tryz.prog 52 #[] w (Post w H fun v H'=>bt6 H' v exO):=by
 go_enter Tryz.func52,Tryz.ntmps52
 go_upto_region 1 with fail
 have c0:=J4.new (Ext.refl hw) #[.slice none 0 0,.slice none 0 0,.slice none 0 0,.int .i64 0,.slice none 0 0,.slice none 0 0,.slice none 0 0,.int .i64 0] 32
 generalize w.alloc (.cells #[.slice none 0 0,.slice none 0 0,.slice none 0 0,.int .i64 0,.slice none 0 0,.slice none 0 0,.slice none 0 0,.int .i64 0] 32)=wA at*
 obtain⟨R,hR⟩:∃R,w.heap.size=R:=⟨_,rfl⟩
 rw[hR]at c0 ⊢
 clear hR
 have xA:=c0.x
 go_upto_region 2 with(go_at_call 82;go_must (refine(cA5 _ _ xA.holds).mono ?_);rintro e w2 ⟨_,H2,rfl,y2,vm,vb,vt,um,ub,ut,rfl,hh,hg⟩;obtain⟨p0,q0,rfl,_,_⟩:=hg.m.form;obtain⟨p1,q1,rfl,_,_⟩:=hg.b.form;obtain⟨p2,q2,rfl,_,_⟩:=hg.t.form;obtain⟨p3,q3,rfl,_,_⟩:=hh.m.form;obtain⟨p4,q4,rfl,_,_⟩:=hh.b.form;obtain⟨p5,q5,rfl,_,_⟩:=hh.t.form)
 have c2:=c0.ext y2
 have c3:=(c2.alloc (.cells #[.slice p3 J3.ms.length q3,.slice p4 J3.bs.length q4,.slice p5 J3.ts.length q5,.int .i64 J3.ch] 26)).alloc (.cells #[.slice p0 exG.ms.length q0,.slice p1 exG.bs.length q1,.slice p2 exG.ts.length q2,.int .i64 exG.ch] 26)
 have cB:J4 w H (w2.heap.size+1) 26 ((w2.alloc (.cells #[.slice p3 J3.ms.length q3,.slice p4 J3.bs.length q4,.slice p5 J3.ts.length q5,.int .i64 J3.ch] 26)).alloc (.cells #[.slice p0 exG.ms.length q0,.slice p1 exG.bs.length q1,.slice p2 exG.ts.length q2,.int .i64 exG.ch] 26)) H2 _:=⟨c3.x,(by have h:=heap_alloc_new (w2.alloc (.cells #[.slice p3 J3.ms.length q3,.slice p4 J3.bs.length q4,.slice p5 J3.ts.length q5,.int .i64 J3.ch] 26)) (.cells #[.slice p0 exG.ms.length q0,.slice p1 exG.bs.length q1,.slice p2 exG.ts.length q2,.int .i64 exG.ch] 26);rw[World.size_alloc]at h;exact h),(by have:=c2.x.below.size;omega),c2.x.holds.D6 (by omega)⟩
 have hRB:R≠w2.heap.size+1:=by have:=c2.lt;omega
 generalize(w2.alloc (.cells #[.slice p3 J3.ms.length q3,.slice p4 J3.bs.length q4,.slice p5 J3.ts.length q5,.int .i64 J3.ch] 26)).alloc (.cells #[.slice p0 exG.ms.length q0,.slice p1 exG.bs.length q1,.slice p2 exG.ts.length q2,.int .i64 exG.ch] 26)=w3 at*
 generalize w2.heap.size+1=B at*
 have x3:=c3.x
 go_upto_region 3 with(go_at_call 83;go_must (refine(cv7 _ _ x3.holds).mono ?_);rintro e w5 ⟨_,H5,rfl,z5,um,uo,ua,g0,n0,k0,g1,n1,k1,g2,n2,k2,z9,rfl,hs⟩;obtain⟨r0,s0,rfl,_,_⟩:=hs.m.form;obtain⟨r1,s1,rfl,_,_⟩:=hs.o.form;obtain⟨r2,s2,rfl,_,_⟩:=hs.a.form)
 have c5:=((c3.ext z5).alloc (.cells #[.slice r0 S9.mo.length s0,.slice r1 S9.wo.length s1,.slice r2 S9.wa.length s2,.int .i64 S9.fr] 30)).alloc (.cells #[.slice g0 n0 k0,.slice g1 n1 k1,.slice g2 n2 k2,.int .i64 z9] 30)
 have cB5:=((cB.ext z5).alloc (.cells #[.slice r0 S9.mo.length s0,.slice r1 S9.wo.length s1,.slice r2 S9.wa.length s2,.int .i64 S9.fr] 30)).alloc (.cells #[.slice g0 n0 k0,.slice g1 n1 k1,.slice g2 n2 k2,.int .i64 z9] 30)
 have cD:J4 w H w5.heap.size 30 ((w5.alloc (.cells #[.slice r0 S9.mo.length s0,.slice r1 S9.wo.length s1,.slice r2 S9.wa.length s2,.int .i64 S9.fr] 30)).alloc (.cells #[.slice g0 n0 k0,.slice g1 n1 k1,.slice g2 n2 k2,.int .i64 z9] 30)) H5 _:=(J4.new (c3.ext z5).x _ _).alloc (.cells #[.slice g0 n0 k0,.slice g1 n1 k1,.slice g2 n2 k2,.int .i64 z9] 30)
 have hRD:R≠w5.heap.size:=fh5 (c3.ext z5).lt
 generalize(w5.alloc (.cells #[.slice r0 S9.mo.length s0,.slice r1 S9.wo.length s1,.slice r2 S9.wa.length s2,.int .i64 S9.fr] 30)).alloc (.cells #[.slice g0 n0 k0,.slice g1 n1 k1,.slice g2 n2 k2,.int .i64 z9] 30)=w6 at*
 generalize w5.heap.size=D at*
 have hg5:=hg.mono (z5.le x3.holds)
 have a0:=cB5.cell 0
 have a1:=cB5.cell 1
 have a2:=cB5.cell 2
 have a3:=cB5.cell 3
 have b0:=cD.cell 0
 have b1:=cD.cell 1
 have b2:=cD.cell 2
 have b3:=cD.cell 3
 simp at a0 a1 a2 a3 b0 b1 b2 b3
 have rz:M9 R 32 w6 (.slice none 0 0) (.slice none 0 0) (.slice none 0 0) (.int .i64 0) (.slice none 0 0) (.slice none 0 0) (.slice none 0 0) (.int .i64 0):=⟨c5.at_⟩
 obtain⟨e0,e1,e2,e3,e4,e5,e6,e7,ef⟩:=rz.cells
 have rz2:=rz.set (.slice p0 exG.ms.length q0) (.slice p1 exG.bs.length q1) (.slice p2 exG.ts.length q2) (.int .i64 exG.ch) (.slice r0 S9.mo.length s0) (.slice r1 S9.wo.length s1) (.slice r2 S9.wa.length s2) (.int .i64 S9.fr)
 have xz:=Ext.aC3 c5.x c5.ob c5.oH (.slice p0 exG.ms.length q0) (.slice p1 exG.bs.length q1) (.slice p2 exG.ts.length q2) (.int .i64 exG.ch) (.slice r0 S9.mo.length s0) (.slice r1 S9.wo.length s1) (.slice r2 S9.wa.length s2) (.int .i64 S9.fr)
 clear rz c5 cB5 cD cB c3 c2 c0 x3 xA y2 z5
 go_wp2
 refine bodyPost_ret (results_cell_row rfl _ _ R 32 _ (0,0) _ rfl rz2.at_ Tryz.underlying32 rfl (by kernel_rfl)) rfl ?_
 exact⟨_,H5,rfl,xz,_,_,_,_,_,_,rfl,hg5,hs⟩
end
section
open Go.RowKit
attribute [local go_sem] j4.drew j4.alloc j4.drewN WB.holds Oper.semAt_some Q9 O1 J7
theorem Own.eh8 {H:j5} {base g:Nat} {w:World} {e:TypeId} {a:ByteArray} (hg:w.heap[g]? =some (.cells #[.string a] e (0,0))) (hb:base≤g) (hH:H g=none) (ha:a.size≤1000):Own H base w e (.slice (some ⟨g,0,none⟩) 1 1) [a]:=
 ⟨[.string a],⟨rfl,.inr ⟨g,1,#[.string a],rfl,hb,hg,fh0 _,by simp[maxLen],by simp<;>rfl,rfl⟩⟩,⟨[.string a],[],rfl,⟨rfl,by omega⟩,rfl⟩,fun k hk=>by simp[Value.ownBlock]at hk;subst hk;exact hH,by simp[Enc.M4]⟩
theorem dL5 {α:Type} {o:List α} (h:o≠[]):∃p c,o=p++[c]:=⟨o.dropLast,o.getLast h,(List.dropLast_concat_getLast h).symm⟩
theorem cv8 (o:List (List UInt8)):U7 o 32=o++[[]]:=by unfold U7;rw[if_pos rfl]
theorem cv9 (p:List (List UInt8)) (c:List UInt8) {b:UInt8} (h:b≠32):U7 (p++[c]) b=p++[c++[b]]:=by unfold U7;rw[if_neg h];simp
theorem dw7 (a b:List UInt8):J8 a++J8 b=J8 (a++b):=by
 apply ah1
 rw[aa5];rfl
theorem dL6 {s:ByteArray} {k:Nat} {b:UInt8} (h:At (C8 s) k b):s.extract k (k+1)=J8 [b]:=by
 apply ah1
 rw[show C8 (s.extract k (k+1))=((C8 s).drop k).take (k+1-k)from by unfold C8;rw[ByteArray.data_extract,Array.toList_extract,List.extract_eq_take_drop]]
 obtain⟨hlt,e⟩:=List.getElem?_eq_some_iff.1 h
 rw[List.drop_eq_getElem_cons hlt,e,Nat.add_sub_cancel_left]
 rfl
theorem aF7 (s:ByteArray) (hs:s.size≤2000000) (H:j5) (w:World) (hw:j4 H w):Calls Tryz.prog 28 #[.string s] w (bh8 w H 9 (C9 s)):=by
 have hfin:(R9 ((C8 s).take s.size)).map J8=C9 s:=by rw[fg7 (Nat.le_of_eq (be8 s))];rfl
 have hcnt:=fun k=>bx5 ((C8 s).take k)
 have dw8:=fun k=>cd6 ((C8 s).take k)
 replace hfin:=fe6 hfin
 replace hcnt:=fe6 hcnt
 replace dw8:=fe6 dw8
 go_enter Tryz.func28,Tryz.ntmps28
 go_upto_region 2 with fail
 have o0:Own H w.heap.size (w.alloc (.cells #[.string ⟨#[]⟩] 9)) 9 (.slice (some ⟨w.heap.size,0,none⟩) 1 1) ((R9 ((C8 s).take 0)).map J8):=Own.eh8 (heap_alloc_new w _) (fh0 _) (hw.D6 (fh0 _)) (by decide)
 have x0:=(Ext.refl hw).alloc (.cells #[.string ⟨#[]⟩] 9)
 generalize w.alloc (.cells #[.string ⟨#[]⟩] 9)=w1 at*
 go_wp2
 go_loopw [3,4] (fun v i wr=>∃(k:Nat) (L:List ByteArray),k≤s.size∧i= .int .i64 (k:Int)∧Hid (L=(R9 ((C8 s).take k)).map J8)∧Ext w H wr H∧Own H w.heap.size wr 9 v L) (fun _ i _=>s.size-(intOf i).toNat)
 case atStart=>exact⟨0,_,fh3 _,rfl,rfl,x0,o0⟩
 case round=>
  clear o0 x0
  obtain⟨k,L,hk,rfl,hL,xr,oo⟩:=hrel
  have hwr:=xr.holds
  have hk0:(0:Int)≤(k:Int):=by omega
  by_cases hlk:k<s.size
  ·obtain⟨b,hb⟩:=At.mk (show k<(C8 s).length from hlk)
   have hsk:=byte_at hb hlk
   have hk1:(k:Int)<(s.size:Int):=by omega
   have hb256:b.toNat<256:=b.toNat_lt
   have hcn:=hcnt.out k
   have hpl:=dw8.out k
   have hne:=aB3 ((C8 s).take k)
   have hst:=ap3 ((C8 s).take k) b
   rw[←hb.take]at hst
   obtain⟨p,c,hpc⟩:=dL5 hne
   rw[hpc]at hcn hpl hst
   have hL2:=hL.out
   rw[hpc]at hL2
   clear hne hL hpc
   have hln:L.length=p.length+1:=by rw[hL2];simp
   have hlp:p.length≤2000000:=by rw[ff4,fg6,be8]at hcn;simp at hcn;omega
   have hcz:c.length≤2000000:=by have:=hpl c (by simp);rw[fg6]at this;omega
   obtain⟨av,cv,rfl,_,_⟩:=oo.form
   by_cases h32:b=32
   ·have ht:((b.toNat:Int)==32)=true:=by rw[h32];rfl
    rw[h32,cv8]at hst
    have aX9:Hid ((L.length+1)*Enc.M4 ByteArray≤140737488355328):=by show _*16≤_;omega
    have aH8:Hid (L.length+1≤9223372036854775807):=by show _≤_;omega
    have hnew:Hid (L++[⟨#[]⟩]=(R9 ((C8 s).take (k+1))).map J8):=by show _=_;rw[hst,List.map_append,←hL2];rfl
    have hrep:Hid ((⟨#[]⟩:ByteArray).size≤140737488355328):=by show _≤_;decide
    clear hb hpl hst hL2 h32 hcn hln
    go_wp2_with(first|((refine au7 (c:=1) (cs:=[.string ⟨#[]⟩]) bi0 rfl _ _ rfl rfl oo rfl (show Enc.rep H (⟨#[]⟩:ByteArray) [.string ⟨#[]⟩]from⟨rfl,hrep.out⟩) hwr aX9.out aH8.out xr.below.size ?_;intro v7 w7 o7 g7 hw7 _)))
    have x7:=(xr.alloc (.cells #[.string ⟨#[]⟩] 9)).grown g7 (fun q e=>(oo.lt q e).1) oo.free
    obtain⟨a7,c7,rfl,_,_⟩:=o7.form
    go_roundw
    case rel=>exact⟨k+1,_,hlk,by go_num,hnew,x7,by first|exact o7|(rw[ff4]at o7;exact o7)⟩
    case measure=>simp[intOf];omega
   ·have ht:((b.toNat:Int)==32)=false:=beq_eq_false_iff_ne.2 fun e=>h32 (UInt8.toNat_inj.1 (by show b.toNat=32;omega))
    rw[cv9 p c h32]at hst
    have hat:At L p.length (J8 c):=by rw[hL2];unfold At;rw[List.map_append,List.getElem?_append_right (by simp)];simp
    have hX:=dL6 hb
    have hkn:((k:Int)+1).toNat=k+1:=by omega
    have hset:Hid (L.set p.length (J8 c++J8 [b])=(R9 ((C8 s).take (k+1))).map J8):=by
     show _=_
     rw[hst,hL2,List.map_append,List.map_append,List.set_append_right _ _ (by simp),dw7]
     simp
    have hcs:(J8 c).size≤2000000:=hcz
    have hXs:(J8 [b]).size=1:=rfl
    obtain⟨g,rfl⟩:=oo.addr rfl (by omega)
    obtain⟨ds,⟨hds,_⟩,hbg,hgn,hgl,hcr,hfz⟩:=oo.as9 hat
    subst hds
    have hc0:=hcr 0 _ rfl
    obtain⟨HS,leS,hwS,sS,_⟩:=oo.freeze hwr
    obtain⟨bS,oS,cS,heS,_,rS⟩:=sS.str hat
    obtain⟨n,hn⟩:∃n,p.length=n:=⟨_,rfl⟩
    rw[hn]at hat hset rS hc0 hln hlp
    have hNn:IntKind.i64.wrap ((L.length:Int)-1)=(n:Int):=by simp[IntKind.wrap,IntKind.signed,IntKind.bits];omega
    have eW1:(L.length:Int)-1=(n:Int):=by omega
    have hkw:IntKind.i64.wrap ((k:Int)+1)=(k:Int)+1:=by simp[IntKind.wrap,IntKind.signed,IntKind.bits];omega
    have hn0:(0:Int)≤(n:Int):=by omega
    have hn1:(n:Int)<(L.length:Int):=by omega
    have hkk:(k:Int)≤(k:Int)+1:=by omega
    have hks:(k:Int)+1≤(s.size:Int):=by omega
    generalize J8 c=q at*
    generalize J8 [b]=r at*
    have hqr:¬9223372036854775807<q.size+r.size:=by omega
    simp only[Enc.sz,Nat.mul_one,fh2]at hc0
    replace hln:=fe6 hln
    clear hb hpl hst hL2 h32 hcn hn
    cases heS
    simp only[Nat.zero_add]at rS
    go_upto_region 7 with fail
    refine(wpIn_wide (n:=3)).1 ?_
    show Code.wpIn (FW none) 3 _ _ _ _ _
    have hnq:Nonempty (WB HS wr):=⟨⟨wr,hwS,Below.refl _ _⟩⟩
    refine X0 (C:=fun w'=>∃x:WB HS wr,w'=x.w) 12 (by kernel_rfl) (by kernel_rfl) (by kernel_rfl) ⟨⟨World.drew wr,j4.drew hwS,(Below.refl _ _).drew⟩,rfl⟩ ?_
    simp only[List.take_succ_cons,List.take_zero,ff5,ff6]
    repeat go_big_quiet_step((first|fail))
    refine wpQuiet_nil ?_
    clear hnq
    rintro w2 ⟨⟨_,hw2,hb2⟩,rfl⟩
    have x2:=xr.step (hb2.mono xr.below.size) (hw2.mono leS)
    have o2:=oo.az2 hb2
    obtain⟨ds,⟨hds,_⟩,ez4,hgn2,eW2,ea4,eW3⟩:=o2.as9 hat
    subst hds
    have hc2:=ea4 0 _ rfl
    simp only[Enc.sz,Nat.mul_one,fh2]at hc2
    clear hc0 hcr ea4 hfz
    have o3:=o2.aV3 (u:= .string (q++r)) (y:=q++r) hat (j:=0) (by decide) (fun ds hd=>by
     obtain⟨e,_⟩:=hd
     subst e
     exact⟨rfl,by rw[ByteArray.size_append];omega⟩)
    simp only[Enc.sz,Nat.mul_one,fh2]at o3
    have x3:=x2.setCell (a:=⟨g,n,none⟩) ez4 hgn2 (.string (q++r))
    gi_wp2
    go_wp2_with fail
    go_roundw
    case rel=>exact⟨k+1,_,hlk,by go_num,hset,x3,o3⟩
    case measure=>simp[intOf];omega
  ·have hke:k=s.size:=by omega
   have hk1:¬(k:Int)<(s.size:Int):=by omega
   have e:=hL.out
   rw[hke,hfin.out]at e
   replace e:=fe6 e
   clear hL
   obtain⟨av,cv,rfl,_,_⟩:=oo.form
   go_wp2
   go_ret
   exact⟨_,H,rfl,xr,by rw[←e.out];exact oo⟩
end
section
open Go.RowKit
attribute [local go_sem] j4.drew j4.alloc j4.drewN WB.holds Oper.semAt_some Q9 O1 J7
def bY2 (H:j5) (u:Value) (x:F7):Prop:=∃v,u= .agg #[.int .i64 x.kind,.int .i64 x.of,.string x.word,.string x.text,v]∧Sl H v x.nums
theorem J4.cw0 {w0 w w':World} {H0 H:j5} {O:Nat} {T:TypeId} {cur:Array Value} {v:Value} {o:Obj} (c:J4 w0 H0 O T w H cur) (hg:(w.alloc o).grownBy w' v.ownBlock) (hne:v.ownBlock≠some O) (hb:∀q,v.ownBlock=some q→w0.heap.size≤q) (hf:∀q,v.ownBlock=some q→H q=none):J4 w0 H0 O T w' H cur:=
 ⟨(c.x.alloc o).grown hg hb hf,(hg.block O (by rw[World.size_alloc];have:=c.lt;omega) (fun e=>hne e.symm)).trans (c.alloc o).at_,c.ob,c.oH⟩
theorem aj3 (va:Value) (p0:ByteArray) (q:List ByteArray) (hjz:(J9 (p0::q)).size≤2000000) (hql:q.length≤2000000) (H:j5) (w:World) (hw:j4 H w) (ha:Sl H va (p0::q)):
 Calls Tryz.prog 71 #[va] w (Post w H fun u H'=>bY2 H' u (A7 (p0::q))):=by
 have hj:=fun(W:World) (hW:j4 H W)=>cN6 va (p0::q) hjz H W hW ha
 obtain⟨J,hJ⟩:∃J,Hid (J9 (p0::q)=J):=⟨_,rfl⟩
 rw[hJ.out]at hj
 obtain⟨N,hN⟩:∃N,Hid ((p0::q).length=N):=⟨_,rfl⟩
 have hNq:Hid ((N:Int)=(q.length:Int)+1):=by show _=_;rw[←hN.out];simp
 obtain⟨ax,cx,e,_,_⟩:=ha.form
 rw[hN.out]at e
 subst e
 obtain⟨b0,o0,c0,he0,hs0,r0⟩:=ha.str (show At (p0::q) 0 p0 from rfl)
 rw[hN.out]at he0
 cases he0
 simp only[fh2]at r0
 have hN0:(0:Int)<(N:Int):=by have:=hNq.out;omega
 have eW4:0<N:=by omega
 replace hj:=fe6 hj
 clear hjz
 go_enter Tryz.func71,Tryz.ntmps71
 go_upto_region 1 with fail
 have cR:=J4.new (Ext.refl hw) #[.int .i64 0,.int .i64 0,.string ⟨#[]⟩,.string ⟨#[]⟩,.slice none 0 0] 82
 have xA:=cR.x
 generalize w.alloc (.cells #[.int .i64 0,.int .i64 0,.string ⟨#[]⟩,.string ⟨#[]⟩,.slice none 0 0] 82)=wA at*
 obtain⟨R,hR⟩:∃R,w.heap.size=R:=⟨_,rfl⟩
 have cR:J4 w H R 82 wA H #[.int .i64 0,.int .i64 0,.string ⟨#[]⟩,.string ⟨#[]⟩,.slice none 0 0]:=by rw[←hR];exact cR
 rw[hR]
 clear hR
 have hwA:=cR.x.holds
 go_cut [3] (fun p wx=>∃X,p= .pointer (some ⟨X,0,none⟩)∧J4 w H X 82 wx H #[.int .i64 0,.int .i64 0,.string p0,.string J,.slice none 0 0]∧J4 w H R 82 wx H #[.int .i64 0,.int .i64 0,.string ⟨#[]⟩,.string ⟨#[]⟩,.slice none 0 0]∧R≠X)
 case first=>
  refine U1 (S:=(fun w'=>j4 H w')) 7 (by kernel_rfl) (by kernel_rfl) ?_ (fun N9=> ?_)
  ·(try dsimp only)
   (first|assumption|exact j4.drew ‹_›|exact j4.alloc ‹_› _)
  simp only[ff8,fg1,fh6,fh7,fg9,fg8,fg3,ff9,fg2]
  refine hdA 0 ?_
  refine hdA 1 ?_
  refine hdA 2 ?_
  refine hdA 3 ?_
  (try simp only[Act.put,fe7,ff1,ff2])
  refine hdR 4 [6] (fun K hK=> ?_) ?_
  ·(go_simp;go_at_call 111;go_must (refine(hj.out _ xA.holds.drew).mono ?_);rintro e w3 ⟨rfl,hb3⟩;have x3:Ext w H w3 H:=xA.drew.step (hb3.mono xA.below.size) (xA.holds.drew.below hb3);have cR6:=cR.drew.below hb3;have k3:=x3.holds)
   refine hK.out _ _ ?_ (fun I4=> ?_)
   ·(try dsimp only)
    (first|assumption|exact j4.drew ‹_›|exact j4.alloc ‹_› _)
   clear hK K N9
   refine hdA 5 ?_
   (try simp only[Act.put,fe7,ff1,ff2])
   refine hdR 6 [] (fun K hK=> ?_) r9.nil
   (go_simp;have cX:=J4.new x3 #[.int .i64 0,.int .i64 0,.string ⟨#[]⟩,.string ⟨#[]⟩,.slice none 0 0] 82;have cR3:=cR6.alloc (.cells #[.int .i64 0,.int .i64 0,.string ⟨#[]⟩,.string ⟨#[]⟩,.slice none 0 0] 82))
   refine hK.out _ _ ?_ (fun F8=> ?_)
   ·(try dsimp only)
    (first|assumption|exact j4.drew ‹_›|exact j4.alloc ‹_› _)
   clear hK K I4
   (try simp only[Act.put,fe7,ff1,ff2])
   refine G9 (by kernel_rfl) ?_
   simp only[ff5,ff6]
   have hRX:R≠w3.heap.size:=fh5 cR6.lt
   generalize w3.alloc (.cells #[.int .i64 0,.int .i64 0,.string ⟨#[]⟩,.string ⟨#[]⟩,.slice none 0 0] 82)=wY at*
   generalize w3.heap.size=X at*
   have m0:=cX.cell 0
   have m1:=cX.cell 1
   have m2:=cX.cell 2
   have m3:=cX.cell 3
   have m4:=cX.cell 4
   have mf:=cX.fz
   simp at m0 m1 m2 m3 m4
   have c1:=((((cX.set 0 (.int .i64 0)).set 1 (.int .i64 0)).set 2 (.string p0)).set 3 (.string J)).set 4 (.slice none 0 0)
   have r1:=((((cR3.off (a:=⟨X,0,none⟩) cX.ob cX.oH (Ne.symm hRX) (.int .i64 0)).off (a:=⟨X,1,none⟩) cX.ob cX.oH (Ne.symm hRX) (.int .i64 0)).off (a:=⟨X,2,none⟩) cX.ob cX.oH (Ne.symm hRX) (.string p0)).off (a:=⟨X,3,none⟩) cX.ob cX.oH (Ne.symm hRX) (.string J)).off (a:=⟨X,4,none⟩) cX.ob cX.oH (Ne.symm hRX) (.slice none 0 0)
   simp only[fe7,ff1,ff2]at c1
   go_wp2_with fail
   go_meet
   exact⟨X,rfl,c1,r1,hRX⟩
  refine r9.cons (by simp only[ff0,fe9,fe8]<;>rfl) (fun K hK=> ?_) ?_
  ·(go_simp;have c6:=J4.new xA.drew #[.int .i64 0,.int .i64 0,.string ⟨#[]⟩,.string ⟨#[]⟩,.slice none 0 0] 82;have cR6:=cR.drew.alloc (.cells #[.int .i64 0,.int .i64 0,.string ⟨#[]⟩,.string ⟨#[]⟩,.slice none 0 0] 82);have k6:=c6.x.holds)
   refine hK.out _ _ ?_ (fun I4=> ?_)
   ·(try dsimp only)
    (first|assumption|exact j4.drew ‹_›|exact j4.alloc ‹_› _)
   clear hK K N9
   (try simp only[Act.put,fe7,ff1,ff2])
   refine hdR 4 [] (fun K hK=> ?_) r9.nil
   (go_simp;go_at_call 111;go_must (refine(hj.out _ c6.x.holds).mono ?_);rintro e wY ⟨rfl,hb3⟩;have cX:=c6.below hb3;have cR3:=cR6.below hb3;have k3:=cX.x.holds)
   refine hK.out _ _ ?_ (fun F8=> ?_)
   ·(try dsimp only)
    (first|assumption|exact j4.drew ‹_›|exact j4.alloc ‹_› _)
   clear hK K I4
   refine hdA 5 ?_
   (try simp only[Act.put,fe7,ff1,ff2])
   refine G9 (by kernel_rfl) ?_
   simp only[ff5,ff6]
   have hRX:R≠wA.drew.heap.size:=fh5 cR.lt
   have hsz:wA.drew.heap.size=wA.heap.size:=rfl
   rw[hsz]at cX hRX
   generalize wA.heap.size=X at*
   have m0:=cX.cell 0
   have m1:=cX.cell 1
   have m2:=cX.cell 2
   have m3:=cX.cell 3
   have m4:=cX.cell 4
   have mf:=cX.fz
   simp at m0 m1 m2 m3 m4
   have c1:=((((cX.set 0 (.int .i64 0)).set 1 (.int .i64 0)).set 2 (.string p0)).set 3 (.string J)).set 4 (.slice none 0 0)
   have r1:=((((cR3.off (a:=⟨X,0,none⟩) cX.ob cX.oH (Ne.symm hRX) (.int .i64 0)).off (a:=⟨X,1,none⟩) cX.ob cX.oH (Ne.symm hRX) (.int .i64 0)).off (a:=⟨X,2,none⟩) cX.ob cX.oH (Ne.symm hRX) (.string p0)).off (a:=⟨X,3,none⟩) cX.ob cX.oH (Ne.symm hRX) (.string J)).off (a:=⟨X,4,none⟩) cX.ob cX.oH (Ne.symm hRX) (.slice none 0 0)
   simp only[fe7,ff1,ff2]at c1
   go_wp2_with fail
   go_meet
   exact⟨X,rfl,c1,r1,hRX⟩
  exact r9.nil
 case rest=>
  obtain⟨X,rfl,c1,r1,hRX⟩:=hcut
  clear xA hwA cR
  go_wp2
  go_loopw [4] (fun i wr=>∃(j k:Nat) (ns:List Int) (v:Value),j=k+1∧k≤q.length∧i= .int .i64 (j:Int)∧Hid (T9 (q.take k)=some ns)∧J4 w H X 82 wr H #[.int .i64 0,.int .i64 0,.string p0,.string J,v]∧J4 w H R 82 wr H #[.int .i64 0,.int .i64 0,.string ⟨#[]⟩,.string ⟨#[]⟩,.slice none 0 0]∧Own H w.heap.size wr 3 v ns) (fun i _=>q.length+2-(intOf i).toNat)
  case atStart=>exact⟨1,0,[],_,rfl,fh3 _,rfl,fe6 rfl,c1,r1,Own.nil _ _ _ _⟩
  case round=>
   clear c1 r1
   obtain⟨j,k,ns,v,hjk,hk,rfl,hns,cX,cR,oo⟩:=hrel
   have hwr:=cX.x.holds
   have hj0:(0:Int)≤(j:Int):=by omega
   by_cases hlk:k<q.length
   ·obtain⟨b,hb⟩:=At.mk hlk
    obtain⟨bb,ob,cb,hbe,hbs,rb⟩:=ha.str (show At (p0::q) j b by rw[hjk];exact hb)
    rw[hN.out]at hbe
    cases hbe
    have hj1:(j:Int)<(N:Int):=by have:=hNq.out;omega
    have hjl:j≤q.length:=by omega
    have ez5:Hid (j+1=k+1+1):=by show _=_;omega
    clear hjk
    have F5:=fun W=>aK3 b W
    cases hw:O5 b with
    |none=>
     have e1:aV7 b=0:=by unfold aV7;rw[hw];rfl
     have e2:aq5 b=false:=by unfold aq5;rw[hw];rfl
     rw[e1,e2]at F5
     have hres:Hid (A7 (p0::q)=E9):=aN9 (p:=p0::q) (aP5 hb hw)
     replace F5:=fe6 F5
     obtain⟨n0,n1,n2,n3,n4⟩:=And.intro (cR.cell 0) (And.intro (cR.cell 1) (And.intro (cR.cell 2) (And.intro (cR.cell 3) (cR.cell 4))))
     clear e1 e2 hw hb hns hlk
     go_upto_region 6 with(go_at_call 45;refine(F5.out _).mono ?_;rintro e w5 ⟨rfl,hb5⟩;have K7:=cR.below hb5)
     have n0:=K7.cell 0
     have n1:=K7.cell 1
     have n2:=K7.cell 2
     have n3:=K7.cell 3
     have n4:=K7.cell 4
     have nf:=K7.fz
     simp at n0 n1 n2 n3 n4
     have c9:=((((K7.set 0 (.int .i64 0)).set 1 (.int .i64 0)).set 2 (.string ⟨#[]⟩)).set 3 (.string ⟨#[]⟩)).set 4 (.slice none 0 0)
     simp only[fe7,ff1,ff2]at c9
     go_wp2_with fail
     refine bodyPost_ret (results_cell_row rfl _ _ R 82 _ (0,0) _ rfl (by first|exact c9.at_|exact K7.at_) Tryz.underlying82 rfl (by kernel_rfl)) rfl ?_
     first|exact⟨_,H,rfl,c9.x,by rw[hres.out];exact⟨_,rfl,Sl.Y9 H⟩⟩|exact⟨_,H,rfl,K7.x,by rw[hres.out];exact⟨_,rfl,Sl.Y9 H⟩⟩
    |some n=>
     have e1:aV7 b=n:=by unfold aV7;rw[hw];rfl
     have e2:aq5 b=true:=by unfold aq5;rw[hw];rfl
     rw[e1,e2]at F5
     have cV4:=bL7 hb hns.out hw
     have hnI:K8 n:=by have:=(ax2 cV4).1 n (by simp);exact this.1
     have hnl:ns.length≤2000000:=by have:=(ax2 hns.out).2;rw[fg6]at this;omega
     replace cV4:=fe6 cV4
     replace F5:=fe6 F5
     replace hnI:=fe6 hnI
     have aX9:Hid ((ns.length+1)*Enc.M4 Int≤140737488355328):=by show _*8≤_;omega
     have aH8:Hid (ns.length+1≤9223372036854775807):=by show _≤_;omega
     obtain⟨av,cv,rfl,_,_⟩:=oo.form
     have hXO:=oo.P8 cX.at_ (by decide)
     have hRO:=oo.P8 cR.at_ (by decide)
     clear e1 e2 hw hb hns
     go_upto_region 6 with(go_at_call 45;refine(F5.out _).mono ?_;rintro e w5 ⟨rfl,hb5⟩;have K7:=cR.below hb5;have cX5:=cX.below hb5;have o5:=oo.az2 hb5)
     have hw5:=cX5.x.holds
     have n4:=cX5.cell 4
     simp at n4
     have nf:=cX5.fz
     clear cR cX oo
     go_wp2_with(first|(at_builtin;go_must (refine au7 (c:=1) (cs:=[.int .i64 n]) ag8 rfl _ _ rfl rfl o5 rfl (show Enc.rep H n [.int .i64 n]from⟨rfl,hnI.out⟩) hw5 aX9.out aH8.out cX5.x.below.size ?_);intro v7 w7 o7 g7 hw7 _;have cX7:=cX5.cw0 g7 hXO (fun q e=>(o5.lt q e).1) o5.free;have cR7:=K7.cw0 g7 hRO (fun q e=>(o5.lt q e).1) o5.free;have z4:=cX7.cell 4;simp at z4;have zf:=cX7.fz;obtain⟨a7,c7,rfl,_,_⟩:=o7.form))
     have hX7:=o7.P8 cX7.at_ (by decide)
     have cX8:=cX7.set 4 (.slice a7 (ns++[n]).length c7)
     simp only[fe7,ff1,ff2]at cX8
     have cR8:=cR7.off (a:=⟨X,4,none⟩) cX7.ob cX7.oH (Ne.symm hRX) (.slice a7 (ns++[n]).length c7)
     have o8:=o7.setCell (a:=⟨X,4,none⟩) hX7 (.slice a7 (ns++[n]).length c7)
     have hl8:(ns++[n]).length=ns.length+1:=by simp
     rw[hl8]at cX8 cR8 o8
     go_roundw
     case rel=>exact⟨j+1,k+1,_,_,ez5.out,hlk,by go_num,cV4,cX8,cR8,o8⟩
     case measure=>simp[intOf];omega
   ·have hke:k=q.length:=by omega
    have hj1:¬(j:Int)<(N:Int):=by have:=hNq.out;omega
    have hnq:=hns.out
    rw[hke,List.take_length]at hnq
    obtain⟨av,cv,rfl,_,_⟩:=oo.form
    have ez6:=fe6 (fun W=>cN7 p0 W)
    obtain⟨b0,o0,c0,he0,hs0,r0⟩:=ha.str (show At (p0::q) 0 p0 from rfl)
    rw[hN.out]at he0
    cases he0
    simp only[fh2]at r0
    have hW1:U3 p0=(ns.length:Int)→A7 (p0::q)=⟨1,0,p0,J,ns⟩:=fun h=>by rw[bj2 hnq h,hJ.out]
    have hW2:U3 p0≠(ns.length:Int)→Y3 p0=(ns.length:Int)→A7 (p0::q)=⟨2,0,p0,J,ns⟩:=fun h h2=>by rw[bj3 hnq h h2,hJ.out]
    have hW3:U3 p0≠(ns.length:Int)→Y3 p0≠(ns.length:Int)→A7 (p0::q)=E9:=fun h h2=>aM5 hnq h h2
    generalize U3 p0=mE at*
    generalize Y3 p0=mQ at*
    have hz:∃z,A7 (p0::q)=z:=⟨_,rfl⟩
    obtain⟨z,hz⟩:=hz
    rw[hz]at hW1 hW2 hW3
    replace hz:=fe6 hz
    replace hW1:=fe6 hW1
    replace hW2:=fe6 hW2
    replace hW3:=fe6 hW3
    clear hns hnq hlk hke hjk
    go_upto_region 10 with(go_at_call 112;refine(ez6.out _).mono ?_;rintro e w5 ⟨rfl,hb5⟩;have K7:=cR.below hb5;have cX5:=cX.below hb5;have o5:=oo.az2 hb5)
    have d0:=cX5.cell 0
    have d1:=cX5.cell 1
    have d2:=cX5.cell 2
    have d3:=cX5.cell 3
    have d4:=cX5.cell 4
    have df:=cX5.fz
    simp at d0 d1 d2 d3 d4
    have e0:=K7.cell 0
    have e1:=K7.cell 1
    have e2:=K7.cell 2
    have e3:=K7.cell 3
    have e4:=K7.cell 4
    have ef:=K7.fz
    simp at e0 e1 e2 e3 e4
    have hRo:=o5.P8 K7.at_ (by decide)
    have hXo:=o5.P8 cX5.at_ (by decide)
    clear cR cX oo
    by_cases hE:mE=(ns.length:Int)
    ·have ht:((ns.length:Int)==mE)=true:=beq_iff_eq.2 hE.symm
     have hres:=fe6 (hW1.out hE)
     clear hE
     have cX6:=cX5.set 0 (.int .i64 1)
     have cR6:=K7.off (a:=⟨X,0,none⟩) cX5.ob cX5.oH (Ne.symm hRX) (.int .i64 1)
     have o6:=o5.setCell (a:=⟨X,0,none⟩) hXo (.int .i64 1)
     have c9:=((((cR6.set 0 (.int .i64 1)).set 1 (.int .i64 0)).set 2 (.string p0)).set 3 (.string J)).set 4 (.slice av ns.length cv)
     have o9:=((((o6.setCell (a:=⟨R,0,none⟩) hRo (.int .i64 1)).setCell (a:=⟨R,1,none⟩) hRo (.int .i64 0)).setCell (a:=⟨R,2,none⟩) hRo (.string p0)).setCell (a:=⟨R,3,none⟩) hRo (.string J)).setCell (a:=⟨R,4,none⟩) hRo (.slice av ns.length cv)
     simp only[fe7,ff1,ff2]at c9
     obtain⟨H9,x9,l9,s9,_⟩:=o9.close c9.x
     go_wp2_with fail
     refine bodyPost_ret (results_cell_row rfl _ _ R 82 _ (0,0) _ rfl c9.at_ Tryz.underlying82 rfl (by kernel_rfl)) rfl ?_
     exact⟨_,H9,rfl,x9,by rw[hz.out,hres.out];exact⟨_,rfl,s9⟩⟩
    ·have ht:((ns.length:Int)==mE)=false:=beq_eq_false_iff_ne.2 (Ne.symm hE)
     by_cases hQ:mQ=(ns.length:Int)
     ·have ht2:((ns.length:Int)==mQ)=true:=beq_iff_eq.2 hQ.symm
      have hres:=fe6 (hW2.out hE hQ)
      clear hE hQ
      have cX6:=cX5.set 0 (.int .i64 2)
      have cR6:=K7.off (a:=⟨X,0,none⟩) cX5.ob cX5.oH (Ne.symm hRX) (.int .i64 2)
      have o6:=o5.setCell (a:=⟨X,0,none⟩) hXo (.int .i64 2)
      have c9:=((((cR6.set 0 (.int .i64 2)).set 1 (.int .i64 0)).set 2 (.string p0)).set 3 (.string J)).set 4 (.slice av ns.length cv)
      have o9:=((((o6.setCell (a:=⟨R,0,none⟩) hRo (.int .i64 2)).setCell (a:=⟨R,1,none⟩) hRo (.int .i64 0)).setCell (a:=⟨R,2,none⟩) hRo (.string p0)).setCell (a:=⟨R,3,none⟩) hRo (.string J)).setCell (a:=⟨R,4,none⟩) hRo (.slice av ns.length cv)
      simp only[fe7,ff1,ff2]at c9
      obtain⟨H9,x9,l9,s9,_⟩:=o9.close c9.x
      go_wp2_with fail
      refine bodyPost_ret (results_cell_row rfl _ _ R 82 _ (0,0) _ rfl c9.at_ Tryz.underlying82 rfl (by kernel_rfl)) rfl ?_
      exact⟨_,H9,rfl,x9,by rw[hz.out,hres.out];exact⟨_,rfl,s9⟩⟩
     ·have ht2:((ns.length:Int)==mQ)=false:=beq_eq_false_iff_ne.2 (Ne.symm hQ)
      have hres:=fe6 (hW3.out hE hQ)
      clear hE hQ
      have c9:=((((K7.set 0 (.int .i64 0)).set 1 (.int .i64 0)).set 2 (.string ⟨#[]⟩)).set 3 (.string ⟨#[]⟩)).set 4 (.slice none 0 0)
      simp only[fe7,ff1,ff2]at c9
      go_wp2_with fail
      refine bodyPost_ret (results_cell_row rfl _ _ R 82 _ (0,0) _ rfl (by first|exact c9.at_|exact K7.at_) Tryz.underlying82 rfl (by kernel_rfl)) rfl ?_
      first|exact⟨_,H,rfl,c9.x,by rw[hz.out,hres.out];exact⟨_,rfl,Sl.Y9 H⟩⟩|exact⟨_,H,rfl,K7.x,by rw[hz.out,hres.out];exact⟨_,rfl,Sl.Y9 H⟩⟩
end
end Go.Proofs.YtbliehinagkldaaGreatDoor
