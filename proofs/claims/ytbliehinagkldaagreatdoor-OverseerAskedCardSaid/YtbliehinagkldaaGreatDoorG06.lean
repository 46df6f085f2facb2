/- Lemmas and walks on which the claims of this seat lean (names and blanks made short by a program): Bst2 Top Ex2 Works LTimes PWait PTold Help OEnt0 OEnt1 OEnt2 OEnt3. -/
import Derived.Test.YtbliehinagkldaaGreatDoorG01
import Derived.Test.YtbliehinagkldaaGreatDoorG02
import Derived.Test.YtbliehinagkldaaGreatDoorG03
import Derived.Test.YtbliehinagkldaaGreatDoorG04
import Derived.Test.YtbliehinagkldaaGreatDoorG05
import Derived.Sort.CutIn

set_option linter.all false
set_option maxRecDepth 100000
set_option maxHeartbeats 16000000
open Go.Lib renaming hid → fe6
open List renaming getD_eq_getElem?_getD → ff3, length_append → ff4, drop_succ_cons → ff5, drop_zero → ff6, length_singleton → ff7, length_cons → ff8, nil_append → ff9, getElem?_eq_getElem → fg0, length_nil → fg1, cons_append → fg2, push_toArray → fg3, length_take → fg6
open Array renaming replicate_zero → fg8, replicate_succ → fg9
open Nat renaming le_refl → fh0, le_trans → fh1, zero_le → fh3, reduceAdd → fh6, reduceSub → fh7
open Int renaming toNat_natCast → fh8
open Bool renaming and_eq_true → fh9
namespace Go.Proofs.YtbliehinagkldaaGreatDoor
section
open Go.RowKit
attribute [local go_sem] j4.drew j4.alloc j4.drewN WB.holds Oper.semAt_some Q9 O1 J7
theorem dr1 (vm vb vt:Value) (h:A9) (hv:Valid h) (stop:Int) (hstop:K8 stop) (H:j5) (w:World) (hw:j4 H w) (hh:Hou H vm vb vt h):
 Calls Tryz.prog 60 #[U2 vm vb vt h,.int .i64 stop] w (Post w H fun v H'=>∃u,v= .tuple #[u,.int .i64 (Y7 h (Q3 h stop):Nat)]∧Sl H' u (Q3 h stop)):=by
 obtain⟨at',ct,rfl,ht1,ht2⟩:=hh.t.form
 have ht4:=hv.t4
 have hw0:=fe6 hw
 refine Calls.aw5 (r:=none) (n:=3) (callsIn_of_wp_marks Tryz.func60 rfl trivial (wpIn_wide.2 ?_) rfl)
 simp only[Tryz.ntmps60,List.size_toArray,ff8,fg1,fh6,fh7,fg9,fg8,fg3,List.append_toArray,ff9,fg2]
 go_upto_region 1 with(refine af8 rfl _ rfl (Ext.refl hw) ?_;intro B w1 H1 hle hx hB hBw;obtain⟨hc0,hc1,hc2,hc3⟩:=R6 hB;clear hB hw;have hw1:=hx.holds)
 have hcB:=Cell.new (W:=w1) (t:=28) hx.holds hx.below.size rfl (.slice none 0 0)
 have hcN:=Cell.new (W:=w1.alloc (.cells #[.slice none 0 0] 28)) (t:=3) (base:=w.heap.size) (hx.alloc (.cells #[.slice none 0 0] 28)).holds (by have:=hx.below.size;simp;omega) rfl (.int .i64 0)
 replace hcB:=hcB.alloc (.cells #[.int .i64 0] 3)
 have hxz:=(hx.alloc (.cells #[.slice none 0 0] 28)).alloc (.cells #[.int .i64 0] 3)
 rw[World.size_alloc]at hcN
 have hne:w1.heap.size≠w1.heap.size+1:=by omega
 generalize(w1.alloc (.cells #[.slice none 0 0] 28)).alloc (.cells #[.int .i64 0] 3)=wz at*
 generalize w1.heap.size+1=NB at*
 generalize w1.heap.size=BB at*
 have hhm:=hh.mono hle
 have hwz:=hxz.holds
 have hcf:=hcN.cell
 have hff:=hcN.fz
 clear hx hle hw1
 go_upto_region 2 with fail
 replace hxz:=hxz.setCell hcN.base hcN.free (.int .i64 ((h.ts.length:Int)+1)) (a:=⟨NB,0,none⟩)
 replace hcB:=hcB.other (a:=⟨NB,0,none⟩) (Ne.symm hne) (.int .i64 ((h.ts.length:Int)+1))
 replace hcN:=hcN.set (.int .i64 ((h.ts.length:Int)+1))
 clear hcf hff hwz
 generalize wz.setCell ⟨NB,0,none⟩ (.int .i64 ((h.ts.length:Int)+1))=wz at*
 have hwz:=hxz.holds
 go_wp2_with(first|(go_at_call 66;refine(aO2 _ _ _ _ hv stop hstop H1 _ hwz hhm).mono ?_;rintro e w3 ⟨lb,H3,rfl,hx3,hit⟩))
 have hw3:=hx3.holds
 have hle3:=hx3.le hwz
 have al2:=hxz.trans hx3
 have dQ7:=(hcB.below hx3.below).snap ((hx3.same BB hcB.lt).trans hcB.free)
 have dQ8:=(hcN.below hx3.below).snap ((hx3.same NB hcN.lt).trans hcN.free)
 have hb0:bk6 w.heap.size BB NB H3 w3 [] ((h.ts.length:Int)+1):=
  ⟨fun _=>none,_,dQ7,dQ8,Mine.empty _ _ _,rfl,rfl,Own.nil _ _ _ _,fun g e=>by cases e⟩
 clear hcB hcN hxz hwz hx3 dQ7 dQ8
 refine(wpIn_wide (n:=3)).1 (at6 (k:=3) (H:=H3) rfl (enters_of Tryz.func99 (by kernel_rfl) rfl) hw3 hit (fun _ _ _ ⟨_,e,_⟩=>by rw[e];rfl) (fun _ _ _ _ hle ⟨v,e,hs⟩=>⟨v,e,hs.mono hle⟩)
  (J:=fun Hc pre W=>Ext w H W Hc∧∃b n,bk6 w.heap.size BB NB Hc W b n∧aW4 h pre b n∧0<n∧n≤5)
  (Jx:=fun c Hc pre W=>(c= .exit 0∧Ext w H W Hc)∧∃b,bk6 w.heap.size BB NB Hc W b 0∧aW4 h pre b 0)
  (J2:=fun Hc pre y args a1 W=>(Ext w H W Hc∧∃b n,bk6 w.heap.size BB NB Hc W b n∧aW4 h pre b n∧0<n∧n≤5)∧∃RX vp,args= #[vp,arr (M3 h y)]∧Row Hc w.heap.size W 124 RX (M3 h y)∧a1={tmps:= #[U2 vm vb (.slice at' h.ts.length ct) h,.int .i64 stop,.pointer (some ⟨B,0,none⟩),undef,.pointer (some ⟨BB,0,none⟩),.pointer (some ⟨NB,0,none⟩),vp,.pointer (some ⟨RX,0,none⟩),undef,undef,undef,.pointer (some ⟨B,2,none⟩),.slice at' h.ts.length ct,.int .i64 (h.ts.length:Int),.int .i64 ((h.ts.length:Int)+1),U2 vm vb (.slice at' h.ts.length ct) h,.int .i64 stop,.func (.func 99) #[] lb,vp,arr (M3 h y),undef,undef,undef,undef,undef,undef,undef,undef,undef,undef,undef,undef,undef,undef,undef,undef,undef,undef,undef,undef,undef,undef,undef,undef],defers:=[]})
  ?hJ (fun c=> ?hJx) (fun _ _ _=> ?hJ2) ⟨al2,[],(h.ts.length:Int)+1,hb0,.inl ⟨rfl,rfl,rfl⟩,by omega,by omega⟩ ?assign ?body ?done ?stop)
 case hJ=>exact fun _ _ _ _ _ ⟨h1,b,n,h2,h3⟩ _ ht=>⟨ht.an1 h1 al2.below.size,b,n,h2.turn ht,h3⟩
 case hJx=>exact fun _ _ _ _ _ ⟨h1,b,h2,h3⟩ _ ht=>⟨⟨h1.1,ht.an1 h1.2 al2.below.size⟩,b,h2.turn ht,h3⟩
 case hJ2=>exact fun _ _ _ _ _ ⟨⟨h1,b,n,h2,h3⟩,RX,vp,ha,hr,e⟩ _ ht=>⟨⟨ht.an1 h1 al2.below.size,b,n,h2.turn ht,h3⟩,RX,vp,ha,hr.turn ht,e⟩
 case assign=>
  rintro l2 Hd pr y V args hl2 hVd ay4 ⟨hxd,b,n,hbs,hsp2⟩ ⟨vp,rfl,hsp⟩ hpr
  obtain⟨r0,r1,r2,r3,hr⟩:=bk4 (ah2 h y)
  rw[hr]
  simp only[arr,List.map_cons,List.map_nil]
  gi_wp2
  have htn:=Q6.ext hVd ((Below.refl V.heap.size V).alloc (fh0 _) (.cells #[.int .i64 r0,.int .i64 r1,.int .i64 r2,.int .i64 r3] 124)) (fh0 _)
  exact⟨hVd.alloc _,⟨hxd.alloc _,b,n,hbs.turn htn,hsp2⟩,V.heap.size,vp,rfl,Row.new (xs:=[r0,r1,r2,r3]) hVd hxd.below.size rfl,by first|rfl|trivial⟩
 case body=>
  rintro l2 rc2 Hd pr y args a1 V hl2 dq6 hVd ay4 ⟨vp',he,hsp⟩ hpr ⟨⟨hxd,b,n,⟨Hj,v,c1,c2,hm,n1,n2,ho,hn⟩,hspec,hn0,hn5⟩,RX,vp,hargs,hrow,rfl⟩
  obtain rfl:vp=vp':=by rw[he]at hargs;simp at hargs;exact hargs.symm
  clear hargs he
  have hpl:=af1 hv stop y (hpr.subset (show y∈pr++[y]by simp))
  have hlN:=bG9 h y
  have hVf:=hVd.put hrow.at_
  have aB9:=j5.L9 hrow.free (.cells ((M3 h y).map (Value.int .i64)).toArray 124 (0,0))
  have hput:=j5.G7 Hd RX (.cells ((M3 h y).map (Value.int .i64)).toArray 124 (0,0))
  generalize Hd.put RX (.cells ((M3 h y).map (Value.int .i64)).toArray 124 (0,0))=Hf at*
  have ai9:=(hle3.trans ay4).trans aB9
  have hhf:=hhm.mono ai9
  have ar4:=bt4 vm vb _ h (M3 h y) Hf V hVf hhf ht4 (ah2 h y) (aB5 hv hpl)
  rw[aZ7 hv hpl]at ar4
  have dA0:=bV0 (aT5 hv y)
  have dQ9:cp1 (ub (ad4 h y))=Y7 h y:=dI7 (aT5 hv y) (by rw[←aZ7 hv hpl];exact cf4 h _ _)
  obtain⟨r0,r1,r2,r3,hr⟩:=bk4 (ah2 h y)
  rw[hr]at ar4 hput ⊢
  simp only[arr,List.map_cons,List.map_nil]at ar4 ⊢
  have g0:=D7 hput hVf 0
  have g1:=D7 hput hVf 1
  have g2:=D7 hput hVf 2
  have g3:=D7 hput hVf 3
  simp at g0 g1 g2 g3
  have e0:=lift ai9 hc0
  have e1:=lift ai9 hc1
  have e2:=lift ai9 hc2
  have e3:=lift ai9 hc3
  obtain⟨U,hU⟩:∃U,Hid (ub (ad4 h y)=U):=⟨_,rfl⟩
  have ch6:=fun w=>dq7 (ub (ad4 h y)) dA0 w
  rw[dQ9]at ch6
  rw[hU.out]at ch6 ar4
  obtain⟨N,hN⟩:∃N,Hid (Y7 h y=N):=⟨_,rfl⟩
  have aW8:=cg0 hspec y
  rw[hN.out]at ch6 hlN aW8
  clear hr hc0 hc1 hc2 hc3 dQ9 dA0
  gi_upto_region 6 with(first|(gi_at_call 67;refine(Calls.wide ar4).mono ?_;rintro e V2 ⟨rfl,hb2⟩)|(gi_at_call 95;refine(Calls.wide (ch6 _)).mono ?_;rintro e V3 ⟨rfl,rfl⟩))
  have cP6:=hVd.below hb2
  have dr4:=hxd.step (hb2.mono hxd.below.size) cP6
  replace ho:=ho.ext hm.holds ⟨hb2,hm.holds.below hb2,fun _ _=>rfl⟩
  replace hm:=hm.below hb2
  replace c1:=c1.below hb2
  replace c2:=c2.below hb2
  have hcn:=c2.cell
  have hfn:=c2.fz
  have hcb:=c1.cell
  have hfb:=c1.fz
  clear ar4 g0 g1 g2 g3 e0 e1 e2 e3 hVf hput hhf aB9 ai9 hrow hxd
  cases hlt:decide ((N:Int)<n)
  ·have hlt':¬((N:Int)<n):=of_decide_eq_false hlt
   rw[if_neg hlt',if_neg hlt']at aW8
   replace hlt':=fe6 hlt'
   gi_wp2
   exact⟨cP6,dr4,b,n,⟨Hj,v,c1,c2,hm,n1,n2,ho,hn⟩,aW8,hn0,hn5⟩
  ·have hlt':(N:Int)<n:=of_decide_eq_true hlt
   rw[if_pos hlt',if_pos hlt']at aW8
   replace hlt':=fe6 hlt'
   gi_upto_region 8 with fail
   have hV4:=(cP6.setCell (a:=⟨BB,0,none⟩) c1.free (.slice none 0 0)).setCell (a:=⟨NB,0,none⟩) c2.free (.int .i64 (N:Int))
   have dR0:=(dr4.setCell (a:=⟨BB,0,none⟩) c1.base c1.free (.slice none 0 0)).setCell (a:=⟨NB,0,none⟩) c2.base c2.free (.int .i64 (N:Int))
   have d1:=(c1.set (.slice none 0 0)).other (a:=⟨NB,0,none⟩) (Ne.symm hne) (.int .i64 (N:Int))
   have d2:=(c2.other (a:=⟨BB,0,none⟩) hne (.slice none 0 0)).set (.int .i64 (N:Int))
   clear hcn hfn hcb hfb c1 c2 ho hm n1 n2 hn cP6 dr4 hspec
   generalize(V2.setCell ⟨BB,0,none⟩ (.slice none 0 0)).setCell ⟨NB,0,none⟩ (.int .i64 (N:Int))=V4 at*
   clear hb2
   have dA2:y.length≤3:=by
    have:=hpl;simp only[aa8,fh9,decide_eq_true_eq]at this
    have:=hv.m3;omega
   obtain⟨ap,cp,et9,hcp1,hcp2⟩:=hsp.form
   subst et9
   gi_wp2
   gi_loopw [10,30] (fun _ i wr=>∃(k:Nat) (Hj:j5) (v:Value) (acc:List (List Int)),k≤y.length∧i= .int .i64 k∧Hid (acc=y.take k)∧Ext w H wr Hd∧Cell Hd wr w.heap.size BB 28 v∧Cell Hd wr w.heap.size NB 3 (.int .i64 (N:Int))∧Mine w.heap.size Hd Hj wr∧Hj BB=none∧Hj NB=none∧Own Hj w.heap.size wr 24 v acc∧(∀g,v.ownBlock=some g→Hd g=none)) (fun _ i _=>y.length-(intOf i).toNat)
   case atStart=>exact⟨0,fun _=>none,_,[],fh3 _,rfl,rfl,dR0,d1,d2,Mine.empty _ _ _,rfl,rfl,Own.nil _ _ _ _,fun g e=>by cases e⟩
   case round=>
    clear hV4 dR0 d1 d2
    obtain⟨k,Hj,v,acc,hk,rfl,hacc,E5,c1,c2,hm,n1,n2,ho,hn⟩:=hrel
    have hwr:=E5.holds
    have hcn:=c2.cell
    have hfn:=c2.fz
    have hcb:=c1.cell
    have hfb:=c1.fz
    by_cases hlk:k<y.length
    ·obtain⟨r,hrk⟩:=At.mk hlk
     obtain⟨bp,op,cp',up,he',hup,hcp⟩:=hsp.list hrk
     cases he'
     have hr5:r.length≤1000000:=by have:=aS4 hpl hrk;have:=hv.b5;omega
     obtain⟨av,cv,hve,hvl,hvc⟩:=ho.form
     subst hve
     have hbn:=ho.aq0 c1 (by decide)
     have hnn:=ho.aq0 c2 (by decide)
     gi_upto_region 11 with fail
     have er4:acc.length≤3:=by rw[hacc.out,fg6];omega
     have eu0:Tryz.prog.follows .mixedOrders=true:=by kernel_rfl
     refine wpIn_region_any eu0 ?_
     change wpAnyIn _ _ _ _ _ _ _ _ _ (World.drew _)
     refine wpAnyIn_ready (rs:=[0,1]) (by kernel_rfl) (by simp) ?_
     refine AllReadyIn.cons rfl (fun K hK=> ?_) ?_
     ·go_simp
      refine hK _ _ ?_
      clear hK K
      refine wpAnyIn_ready (rs:=[1]) (by kernel_rfl) (by simp) ?_
      refine AllReadyIn.cons rfl (fun K hK=> ?_) AllReadyIn.nil
      go_simp
      refine hK _ _ ?_
      clear hK K
      refine wpAnyIn_ready (rs:=[2]) (by kernel_rfl) (by simp) ?_
      refine AllReadyIn.cons rfl (fun K hK=> ?_) AllReadyIn.nil
      go_simp
      gi_wp2_with (gi_at_call 96;refine(Calls.wide (bk5 _ _ Hd _ hwr.drew hup hr5)).mono ?_;rintro e w5 ⟨vr,H5,rfl,hx5,ho5⟩;obtain⟨a5,c5,rfl,_,_⟩:=ho5.form)
      have hb5:Below wr.heap.size wr w5:=((Below.refl wr.heap.size wr).drew).trans hx5.below
      obtain⟨Hj5,bN2,hm5,hs5,aw6⟩:=(hm.below hb5).row hm.holds.drew hwr.drew ho5 E5.below.size
      have o5:=(ho.ext hm.holds ⟨hb5,hm.holds.below hb5,fun _ _=>rfl⟩).bH9 bN2 (fun q e=>(aw6 q (ho.lt q e).2).trans (ho.free q e))
      have c15:=c1.below hb5
      have c25:=c2.below hb5
      have aK6:=E5.step (hb5.mono E5.below.size) (hwr.below hb5)
      have n15:=(aw6 BB c1.lt).trans n1
      have n25:=(aw6 NB c2.lt).trans n2
      have dR1:=c15.cell
      have dA3:=(c15.alloc (.cells #[.slice a5 r.length c5] 24)).cell
      refine wpAnyIn_ready (rs:=[3]) (by kernel_rfl) (by simp) ?_
      refine AllReadyIn.cons rfl (fun K hK=> ?_) AllReadyIn.nil
      go_simp
      refine hK _ _ ?_
      clear hK K
      refine wpAnyIn_ready (rs:=[4]) (by kernel_rfl) (by simp) ?_
      refine AllReadyIn.cons rfl (fun K hK=> ?_) AllReadyIn.nil
      refine aO3 (H:=Hj5) (base:=w.heap.size) (x:=r) eList rfl _ _ rfl rfl (o5.alloc (.cells #[.slice a5 r.length c5] 24)) rfl ⟨_,rfl,hs5⟩ (one_cell (by simp[go_sem])) (hm5.holds.alloc _) (by simp[Enc.M4];omega) (by omega) (by have:=aK6.below.size;simp;omega) ?_
      intro v6 w6 o6 hg6 hw6 bl1
      refine hK _ _ ?_
      clear hK K
      have c16:Cell Hd w6 w.heap.size BB 28 (.slice av acc.length cv):=⟨(hg6.block BB (by simp;have:=c15.lt;omega) (Ne.symm hbn)).trans (c15.alloc _).at_,c15.free,c15.base⟩
      have c26:Cell Hd w6 w.heap.size NB 3 (.int .i64 (N:Int)):=⟨(hg6.block NB (by simp;have:=c25.lt;omega) (Ne.symm hnn)).trans (c25.alloc _).at_,c25.free,c25.base⟩
      have bI0:=(aK6.alloc (.cells #[.slice a5 r.length c5] 24)).grown hg6 (fun q e=>(ho.lt q e).1) hn
      have hm6:Mine w.heap.size Hd Hj5 w6:=⟨hw6,hm5.own⟩
      have hn6:∀g,v6.ownBlock=some g→Hd g=none:=fun g e=>by
       rcases bl1 with h|h
       ·exact hn g (h ▸ e)
       ·rw[h]at e;cases e;exact(aK6.holds.alloc _).D6 (fh0 _)
      have bI1:=o6.aq0 c16 (by decide)
      obtain⟨a6,c6,hv6,_,_⟩:=o6.form;rw[ff4,ff7]at hv6;subst hv6
      have dr5:=c16.cell
      have dr6:=c16.fz
      refine wpAnyIn_ready (rs:=[5]) (by kernel_rfl) (by simp) ?_
      refine AllReadyIn.cons rfl (fun K hK=> ?_) AllReadyIn.nil
      go_simp
      refine hK _ _ ?_
      clear hK K
      refine wpAnyIn_done (by kernel_rfl) ?_ _
      gi_wp2
      go_roundw
      case rel=>exact⟨k+1,Hj5,_,acc++[r],by omega,by go_num,by show _=_;rw[hacc.out,hrk.take],bI0.setCell (a:=⟨BB,0,none⟩) c16.base c16.free _,c16.set _,c26.other (a:=⟨BB,0,none⟩) hne _,hm6.setCell n15 _,n15,n25,o6.setCell bI1 _,hn6⟩
      case measure=>simp[intOf];omega
     refine AllReadyIn.cons rfl (fun K hK=> ?_) AllReadyIn.nil
     go_simp
     refine hK _ _ ?_
     clear hK K
     refine wpAnyIn_ready (rs:=[0,2]) (by kernel_rfl) (by simp) ?_
     refine AllReadyIn.cons rfl (fun K hK=> ?_) ?_
     ·go_simp
      refine hK _ _ ?_
      clear hK K
      refine wpAnyIn_ready (rs:=[2]) (by kernel_rfl) (by simp) ?_
      refine AllReadyIn.cons rfl (fun K hK=> ?_) AllReadyIn.nil
      go_simp
      gi_wp2_with (gi_at_call 96;refine(Calls.wide (bk5 _ _ Hd _ hwr.drew hup hr5)).mono ?_;rintro e w5 ⟨vr,H5,rfl,hx5,ho5⟩;obtain⟨a5,c5,rfl,_,_⟩:=ho5.form)
      have hb5:Below wr.heap.size wr w5:=((Below.refl wr.heap.size wr).drew).trans hx5.below
      obtain⟨Hj5,bN2,hm5,hs5,aw6⟩:=(hm.below hb5).row hm.holds.drew hwr.drew ho5 E5.below.size
      have o5:=(ho.ext hm.holds ⟨hb5,hm.holds.below hb5,fun _ _=>rfl⟩).bH9 bN2 (fun q e=>(aw6 q (ho.lt q e).2).trans (ho.free q e))
      have c15:=c1.below hb5
      have c25:=c2.below hb5
      have aK6:=E5.step (hb5.mono E5.below.size) (hwr.below hb5)
      have n15:=(aw6 BB c1.lt).trans n1
      have n25:=(aw6 NB c2.lt).trans n2
      have dR1:=c15.cell
      have dA3:=(c15.alloc (.cells #[.slice a5 r.length c5] 24)).cell
      refine wpAnyIn_ready (rs:=[3]) (by kernel_rfl) (by simp) ?_
      refine AllReadyIn.cons rfl (fun K hK=> ?_) AllReadyIn.nil
      go_simp
      refine hK _ _ ?_
      clear hK K
      refine wpAnyIn_ready (rs:=[4]) (by kernel_rfl) (by simp) ?_
      refine AllReadyIn.cons rfl (fun K hK=> ?_) AllReadyIn.nil
      refine aO3 (H:=Hj5) (base:=w.heap.size) (x:=r) eList rfl _ _ rfl rfl (o5.alloc (.cells #[.slice a5 r.length c5] 24)) rfl ⟨_,rfl,hs5⟩ (one_cell (by simp[go_sem])) (hm5.holds.alloc _) (by simp[Enc.M4];omega) (by omega) (by have:=aK6.below.size;simp;omega) ?_
      intro v6 w6 o6 hg6 hw6 bl1
      refine hK _ _ ?_
      clear hK K
      have c16:Cell Hd w6 w.heap.size BB 28 (.slice av acc.length cv):=⟨(hg6.block BB (by simp;have:=c15.lt;omega) (Ne.symm hbn)).trans (c15.alloc _).at_,c15.free,c15.base⟩
      have c26:Cell Hd w6 w.heap.size NB 3 (.int .i64 (N:Int)):=⟨(hg6.block NB (by simp;have:=c25.lt;omega) (Ne.symm hnn)).trans (c25.alloc _).at_,c25.free,c25.base⟩
      have bI0:=(aK6.alloc (.cells #[.slice a5 r.length c5] 24)).grown hg6 (fun q e=>(ho.lt q e).1) hn
      have hm6:Mine w.heap.size Hd Hj5 w6:=⟨hw6,hm5.own⟩
      have hn6:∀g,v6.ownBlock=some g→Hd g=none:=fun g e=>by
       rcases bl1 with h|h
       ·exact hn g (h ▸ e)
       ·rw[h]at e;cases e;exact(aK6.holds.alloc _).D6 (fh0 _)
      have bI1:=o6.aq0 c16 (by decide)
      obtain⟨a6,c6,hv6,_,_⟩:=o6.form;rw[ff4,ff7]at hv6;subst hv6
      have dr5:=c16.cell
      have dr6:=c16.fz
      refine wpAnyIn_ready (rs:=[5]) (by kernel_rfl) (by simp) ?_
      refine AllReadyIn.cons rfl (fun K hK=> ?_) AllReadyIn.nil
      go_simp
      refine hK _ _ ?_
      clear hK K
      refine wpAnyIn_done (by kernel_rfl) ?_ _
      gi_wp2
      go_roundw
      case rel=>exact⟨k+1,Hj5,_,acc++[r],by omega,by go_num,by show _=_;rw[hacc.out,hrk.take],bI0.setCell (a:=⟨BB,0,none⟩) c16.base c16.free _,c16.set _,c26.other (a:=⟨BB,0,none⟩) hne _,hm6.setCell n15 _,n15,n25,o6.setCell bI1 _,hn6⟩
      case measure=>simp[intOf];omega
     refine AllReadyIn.cons rfl (fun K hK=> ?_) AllReadyIn.nil
     go_simp
     gi_wp2_with (gi_at_call 96;refine(Calls.wide (bk5 _ _ Hd _ hwr.drew hup hr5)).mono ?_;rintro e w5 ⟨vr,H5,rfl,hx5,ho5⟩;obtain⟨a5,c5,rfl,_,_⟩:=ho5.form)
     have hb5:Below wr.heap.size wr w5:=((Below.refl wr.heap.size wr).drew).trans hx5.below
     obtain⟨Hj5,bN2,hm5,hs5,aw6⟩:=(hm.below hb5).row hm.holds.drew hwr.drew ho5 E5.below.size
     have o5:=(ho.ext hm.holds ⟨hb5,hm.holds.below hb5,fun _ _=>rfl⟩).bH9 bN2 (fun q e=>(aw6 q (ho.lt q e).2).trans (ho.free q e))
     have c15:=c1.below hb5
     have c25:=c2.below hb5
     have aK6:=E5.step (hb5.mono E5.below.size) (hwr.below hb5)
     have n15:=(aw6 BB c1.lt).trans n1
     have n25:=(aw6 NB c2.lt).trans n2
     have dR1:=c15.cell
     have dA3:=(c15.alloc (.cells #[.slice a5 r.length c5] 24)).cell
     refine wpAnyIn_ready (rs:=[0,3]) (by kernel_rfl) (by simp) ?_
     refine AllReadyIn.cons rfl (fun K hK=> ?_) ?_
     ·go_simp
      refine hK _ _ ?_
      clear hK K
      refine wpAnyIn_ready (rs:=[3]) (by kernel_rfl) (by simp) ?_
      refine AllReadyIn.cons rfl (fun K hK=> ?_) AllReadyIn.nil
      go_simp
      refine hK _ _ ?_
      clear hK K
      refine wpAnyIn_ready (rs:=[4]) (by kernel_rfl) (by simp) ?_
      refine AllReadyIn.cons rfl (fun K hK=> ?_) AllReadyIn.nil
      refine aO3 (H:=Hj5) (base:=w.heap.size) (x:=r) eList rfl _ _ rfl rfl (o5.alloc (.cells #[.slice a5 r.length c5] 24)) rfl ⟨_,rfl,hs5⟩ (one_cell (by simp[go_sem])) (hm5.holds.alloc _) (by simp[Enc.M4];omega) (by omega) (by have:=aK6.below.size;simp;omega) ?_
      intro v6 w6 o6 hg6 hw6 bl1
      refine hK _ _ ?_
      clear hK K
      have c16:Cell Hd w6 w.heap.size BB 28 (.slice av acc.length cv):=⟨(hg6.block BB (by simp;have:=c15.lt;omega) (Ne.symm hbn)).trans (c15.alloc _).at_,c15.free,c15.base⟩
      have c26:Cell Hd w6 w.heap.size NB 3 (.int .i64 (N:Int)):=⟨(hg6.block NB (by simp;have:=c25.lt;omega) (Ne.symm hnn)).trans (c25.alloc _).at_,c25.free,c25.base⟩
      have bI0:=(aK6.alloc (.cells #[.slice a5 r.length c5] 24)).grown hg6 (fun q e=>(ho.lt q e).1) hn
      have hm6:Mine w.heap.size Hd Hj5 w6:=⟨hw6,hm5.own⟩
      have hn6:∀g,v6.ownBlock=some g→Hd g=none:=fun g e=>by
       rcases bl1 with h|h
       ·exact hn g (h ▸ e)
       ·rw[h]at e;cases e;exact(aK6.holds.alloc _).D6 (fh0 _)
      have bI1:=o6.aq0 c16 (by decide)
      obtain⟨a6,c6,hv6,_,_⟩:=o6.form;rw[ff4,ff7]at hv6;subst hv6
      have dr5:=c16.cell
      have dr6:=c16.fz
      refine wpAnyIn_ready (rs:=[5]) (by kernel_rfl) (by simp) ?_
      refine AllReadyIn.cons rfl (fun K hK=> ?_) AllReadyIn.nil
      go_simp
      refine hK _ _ ?_
      clear hK K
      refine wpAnyIn_done (by kernel_rfl) ?_ _
      gi_wp2
      go_roundw
      case rel=>exact⟨k+1,Hj5,_,acc++[r],by omega,by go_num,by show _=_;rw[hacc.out,hrk.take],bI0.setCell (a:=⟨BB,0,none⟩) c16.base c16.free _,c16.set _,c26.other (a:=⟨BB,0,none⟩) hne _,hm6.setCell n15 _,n15,n25,o6.setCell bI1 _,hn6⟩
      case measure=>simp[intOf];omega
     refine AllReadyIn.cons rfl (fun K hK=> ?_) AllReadyIn.nil
     go_simp
     refine hK _ _ ?_
     clear hK K
     refine wpAnyIn_ready (rs:=[0]) (by kernel_rfl) (by simp) ?_
     refine AllReadyIn.cons rfl (fun K hK=> ?_) AllReadyIn.nil
     go_simp
     refine hK _ _ ?_
     clear hK K
     refine wpAnyIn_ready (rs:=[4]) (by kernel_rfl) (by simp) ?_
     refine AllReadyIn.cons rfl (fun K hK=> ?_) AllReadyIn.nil
     refine aO3 (H:=Hj5) (base:=w.heap.size) (x:=r) eList rfl _ _ rfl rfl (o5.alloc (.cells #[.slice a5 r.length c5] 24)) rfl ⟨_,rfl,hs5⟩ (one_cell (by simp[go_sem])) (hm5.holds.alloc _) (by simp[Enc.M4];omega) (by omega) (by have:=aK6.below.size;simp;omega) ?_
     intro v6 w6 o6 hg6 hw6 bl1
     refine hK _ _ ?_
     clear hK K
     have c16:Cell Hd w6 w.heap.size BB 28 (.slice av acc.length cv):=⟨(hg6.block BB (by simp;have:=c15.lt;omega) (Ne.symm hbn)).trans (c15.alloc _).at_,c15.free,c15.base⟩
     have c26:Cell Hd w6 w.heap.size NB 3 (.int .i64 (N:Int)):=⟨(hg6.block NB (by simp;have:=c25.lt;omega) (Ne.symm hnn)).trans (c25.alloc _).at_,c25.free,c25.base⟩
     have bI0:=(aK6.alloc (.cells #[.slice a5 r.length c5] 24)).grown hg6 (fun q e=>(ho.lt q e).1) hn
     have hm6:Mine w.heap.size Hd Hj5 w6:=⟨hw6,hm5.own⟩
     have hn6:∀g,v6.ownBlock=some g→Hd g=none:=fun g e=>by
      rcases bl1 with h|h
      ·exact hn g (h ▸ e)
      ·rw[h]at e;cases e;exact(aK6.holds.alloc _).D6 (fh0 _)
     have bI1:=o6.aq0 c16 (by decide)
     obtain⟨a6,c6,hv6,_,_⟩:=o6.form;rw[ff4,ff7]at hv6;subst hv6
     have dr5:=c16.cell
     have dr6:=c16.fz
     refine wpAnyIn_ready (rs:=[5]) (by kernel_rfl) (by simp) ?_
     refine AllReadyIn.cons rfl (fun K hK=> ?_) AllReadyIn.nil
     go_simp
     refine hK _ _ ?_
     clear hK K
     refine wpAnyIn_done (by kernel_rfl) ?_ _
     gi_wp2
     go_roundw
     case rel=>exact⟨k+1,Hj5,_,acc++[r],by omega,by go_num,by show _=_;rw[hacc.out,hrk.take],bI0.setCell (a:=⟨BB,0,none⟩) c16.base c16.free _,c16.set _,c26.other (a:=⟨BB,0,none⟩) hne _,hm6.setCell n15 _,n15,n25,o6.setCell bI1 _,hn6⟩
     case measure=>simp[intOf];omega
    ·have hky:acc=y:=by rw[hacc.out,aq1 (xs:=y) (k:=k) (by omega)]
     subst hky
     cases hN0:((N:Int)==0)
     ·have hNp:0<N:=by have:¬(N:Int)=0:=by simpa using hN0
                       omega
      gi_wp2
      exact⟨hwr,E5,acc,(N:Int),⟨Hj,v,c1,c2,hm,n1,n2,ho,hn⟩,aW8,by omega,by omega⟩
     ·have hNz:(N:Int)=0:=by simpa using hN0
      rw[hNz]at aW8 c2
      replace hNz:=fe6 hNz
      gi_wp2
      exact⟨hwr,⟨rfl,E5⟩,acc,⟨Hj,v,c1,c2,hm,n1,n2,ho,hn⟩,aW8⟩
 case done=>
  rintro D Hc W hD hWc K5 hDc ⟨hxc,b,n,hbs,hspec,hn0,hn5⟩
  obtain⟨rfl,rfl⟩:b=Q3 h stop∧n=(Y7 h (Q3 h stop):Nat):=by
   rcases hspec with⟨e,_⟩|⟨_,e1,e2⟩
   ·have:=bJ7 hv stop;rw[e]at this;simp at this
   ·rw[e1]at e2 ⊢;exact⟨rfl,e2⟩
  obtain⟨Hj,v,c1,c2,hm,n1,n2,ho,hn⟩:=hbs
  have hDW:=hWc.at_ _ _ hDc
  have hBD:BB≠D:=by rintro rfl;rw[c1.at_]at hDW;cases hDW
  have hND:NB≠D:=by rintro rfl;rw[c2.at_]at hDW;cases hDW
  obtain⟨av,cv,hve,hvl,hvc⟩:=ho.form
  subst hve
  have hbn:=ho.aq0 c1 (by decide)
  have hnn:=ho.aq0 c2 (by decide)
  have hcb:=c1.cell
  have hfb:=c1.fz
  have hcn:=c2.cell
  have hfn:=c2.fz
  have bM8:=al2.below.size
  have hDlt:=(Array.getElem?_eq_some_iff.1 hDW).1
  go_wp2_with fail
  go_region
  all_goals
   go_wp2_with fail
   have f1:=((c1.set (.slice av (Q3 h stop).length cv)).other (a:=⟨NB,0,none⟩) (Ne.symm hne) (.int .i64 (Y7 h (Q3 h stop):Nat))).drew
   have f2:=((c2.other (a:=⟨BB,0,none⟩) hne (.slice av (Q3 h stop).length cv)).set (.int .i64 (Y7 h (Q3 h stop):Nat))).drew
   have fo:Own Hj w.heap.size ((W.setCell ⟨BB,0,none⟩ (.slice av (Q3 h stop).length cv)).setCell ⟨NB,0,none⟩ (.int .i64 (Y7 h (Q3 h stop):Nat))).drew 24 (.slice av (Q3 h stop).length cv) (Q3 h stop):=((ho.setCell (a:=⟨BB,0,none⟩) hbn _).setCell (a:=⟨NB,0,none⟩) hnn _).drew
   have fm:Mine w.heap.size Hc Hj ((W.setCell ⟨BB,0,none⟩ (.slice av (Q3 h stop).length cv)).setCell ⟨NB,0,none⟩ (.int .i64 (Y7 h (Q3 h stop):Nat))).drew:=⟨((hm.holds.setCell (a:=⟨BB,0,none⟩) n1 _).setCell (a:=⟨NB,0,none⟩) n2 _).drew,hm.own⟩
   have fb:Below w.heap.size w ((W.setCell ⟨BB,0,none⟩ (.slice av (Q3 h stop).length cv)).setCell ⟨NB,0,none⟩ (.int .i64 (Y7 h (Q3 h stop):Nat))).drew:=((hxc.below.setCell (p:=⟨BB,0,none⟩) c1.base _).setCell (p:=⟨NB,0,none⟩) c2.base _).drew
   have fD:((W.setCell ⟨BB,0,none⟩ (.slice av (Q3 h stop).length cv)).setCell ⟨NB,0,none⟩ (.int .i64 (Y7 h (Q3 h stop):Nat))).drew.heap[D]? =some (.deferred (some [])):=(Below.heap_setCell _ _ _ _ (Ne.symm hND)).trans ((Below.heap_setCell _ _ _ _ (Ne.symm hBD)).trans hDW)
   refine ak6 fD (bp3 rfl _ _ BB NB _ _ rfl rfl (f1.am3 hBD).cell (f2.am3 hND).cell (by kernel_rfl) (by kernel_rfl)) ?_
   obtain⟨H',hx',hs'⟩:=Mine.finish hw0.out (ao7 (o:= .deferred none) fb (by omega) (Array.getElem?_eq_some_iff.1 fD).1) (fm.am3 fD rfl) (fo.am3 (o':= .deferred none) fD rfl)
   exact⟨_,H',rfl,hx',_,rfl,hs'⟩
 case stop=>
  rintro D c Hc pre W hD hWc K5 hDc hpre ⟨⟨rfl,hxc⟩,b,hbs,hspec⟩
  obtain⟨rfl,hz⟩:b=Q3 h stop∧(0:Int)=(Y7 h (Q3 h stop):Nat):=by
   rcases hspec with⟨_,_,e⟩|⟨hne2,e1,e2⟩
   ·omega
   ·have hstp:=bV2 (f:=Y7 h) hpre hne2 (by rw[e1]at e2;omega)
    have:b=Q3 h stop:=by rw[e1,Q3,hstp]
    exact⟨this,by rw[←this];exact e2⟩
  rw[hz]at hbs
  replace hz:=fe6 hz
  obtain⟨Hj,v,c1,c2,hm,n1,n2,ho,hn⟩:=hbs
  have hDW:=hWc.at_ _ _ hDc
  have hBD:BB≠D:=by rintro rfl;rw[c1.at_]at hDW;cases hDW
  have hND:NB≠D:=by rintro rfl;rw[c2.at_]at hDW;cases hDW
  obtain⟨av,cv,hve,hvl,hvc⟩:=ho.form
  subst hve
  have hbn:=ho.aq0 c1 (by decide)
  have hnn:=ho.aq0 c2 (by decide)
  have hcb:=c1.cell
  have hfb:=c1.fz
  have hcn:=c2.cell
  have hfn:=c2.fz
  have bM8:=al2.below.size
  have hDlt:=(Array.getElem?_eq_some_iff.1 hDW).1
  gi_wp2
  go_wp2_with fail
  go_region
  all_goals
   go_wp2_with fail
   have f1:=((c1.set (.slice av (Q3 h stop).length cv)).other (a:=⟨NB,0,none⟩) (Ne.symm hne) (.int .i64 (Y7 h (Q3 h stop):Nat))).drew
   have f2:=((c2.other (a:=⟨BB,0,none⟩) hne (.slice av (Q3 h stop).length cv)).set (.int .i64 (Y7 h (Q3 h stop):Nat))).drew
   have fo:Own Hj w.heap.size ((W.setCell ⟨BB,0,none⟩ (.slice av (Q3 h stop).length cv)).setCell ⟨NB,0,none⟩ (.int .i64 (Y7 h (Q3 h stop):Nat))).drew 24 (.slice av (Q3 h stop).length cv) (Q3 h stop):=((ho.setCell (a:=⟨BB,0,none⟩) hbn _).setCell (a:=⟨NB,0,none⟩) hnn _).drew
   have fm:Mine w.heap.size Hc Hj ((W.setCell ⟨BB,0,none⟩ (.slice av (Q3 h stop).length cv)).setCell ⟨NB,0,none⟩ (.int .i64 (Y7 h (Q3 h stop):Nat))).drew:=⟨((hm.holds.setCell (a:=⟨BB,0,none⟩) n1 _).setCell (a:=⟨NB,0,none⟩) n2 _).drew,hm.own⟩
   have fb:Below w.heap.size w ((W.setCell ⟨BB,0,none⟩ (.slice av (Q3 h stop).length cv)).setCell ⟨NB,0,none⟩ (.int .i64 (Y7 h (Q3 h stop):Nat))).drew:=((hxc.below.setCell (p:=⟨BB,0,none⟩) c1.base _).setCell (p:=⟨NB,0,none⟩) c2.base _).drew
   have fD:((W.setCell ⟨BB,0,none⟩ (.slice av (Q3 h stop).length cv)).setCell ⟨NB,0,none⟩ (.int .i64 (Y7 h (Q3 h stop):Nat))).drew.heap[D]? =some (.deferred (some [])):=(Below.heap_setCell _ _ _ _ (Ne.symm hND)).trans ((Below.heap_setCell _ _ _ _ (Ne.symm hBD)).trans hDW)
   refine ak6 fD (bp3 rfl _ _ BB NB _ _ rfl rfl (f1.am3 hBD).cell (f2.am3 hND).cell (by kernel_rfl) (by kernel_rfl)) ?_
   obtain⟨H',hx',hs'⟩:=Mine.finish hw0.out (ao7 (o:= .deferred none) fb (by omega) (Array.getElem?_eq_some_iff.1 fD).1) (fm.am3 fD rfl) (fo.am3 (o':= .deferred none) fD rfl)
   exact⟨_,H',rfl,hx',_,rfl,hs'⟩
end
section
open Go.RowKit
attribute [local go_sem] j4.drew j4.alloc j4.drewN WB.holds
theorem cA4 (vm vb vt:Value) (h:A9) (H:j5) (w:World) (hw:j4 H w) (hh:Hou H vm vb vt h):
 Calls Tryz.prog 33 #[U2 vm vb vt h] w (I1 w (.tuple #[.int .i64 (am2 h),.int .i64 (aq2 (valid h))])):=by
 cases hv:valid h
 ·have he:aq2 (valid h)=40:=by rw[hv];rfl
  have hf:am2 h=0:=by unfold am2;rw[hv];rfl
  go_enter Tryz.func33,Tryz.ntmps33
  go_wp2_with(first|(refine af8 rfl _ rfl (Ext.refl hw) ?_;intro B w1 H1 hle hx hB hBw;obtain⟨hc0,hc1,hc2,hc3⟩:=R6 hB;clear hB hw;have hw1:=hx.holds)|(go_at_call 56;refine(aj7 _ _ _ _ _ _ hw1 (hh.mono hle)).mono ?_;rintro e w' ⟨rfl,hb2⟩))
  go_ret2
  exact⟨by rw[hf];rfl,hx.below.trans (hb2.mono hx.below.size)⟩
 ·have he:aq2 (valid h)=0:=by rw[hv];rfl
  have hV:=ad3.1 hv
  have hf:am2 h=(Y7 h (Q3 h (-1)):Nat):=by unfold am2;rw[hv];rfl
  go_enter Tryz.func33,Tryz.ntmps33
  go_wp2_with(first|(refine af8 rfl _ rfl (Ext.refl hw) ?_;intro B w1 H1 hle hx hB hBw;obtain⟨hc0,hc1,hc2,hc3⟩:=R6 hB;clear hB hw;have hw1:=hx.holds)|(go_at_call 56;refine(aj7 _ _ _ _ _ _ hw1 (hh.mono hle)).mono ?_;rintro e w' ⟨rfl,hb2⟩;have hw2:=hw1.below hb2)|(go_at_call 60;refine(dr1 _ _ _ _ hV (-1) (by unfold K8;omega) _ _ hw2 (hh.mono hle)).mono ?_;rintro e w' ⟨v,H3,rfl,hx3,u,rfl,hs3⟩))
  go_ret2
  exact⟨by rw[hf];rfl,((hx.step (hb2.mono hx.below.size) hw2).trans hx3).below⟩
def aT7 (h:A9):Bool:=valid h&&ar0 h []
theorem de5 (vm vb vt:Value) (h:A9) (H:j5) (w:World) (hw:j4 H w) (hh:Hou H vm vb vt h):
 Calls Tryz.prog 30 #[U2 vm vb vt h] w (I1 w (.tuple #[.bool (aT7 h),.int .i64 (aq2 (valid h))])):=by
 cases hv:valid h
 ·have he:aq2 (valid h)=40:=by rw[hv];rfl
  have hf:aT7 h=false:=by unfold aT7;rw[hv];rfl
  go_enter Tryz.func30,Tryz.ntmps30
  go_wp2_with(first|(refine af8 rfl _ rfl (Ext.refl hw) ?_;intro B w1 H1 hle hx hB hBw;obtain⟨hc0,hc1,hc2,hc3⟩:=R6 hB;clear hB hw;have hw1:=hx.holds)|(go_at_call 56;refine(aj7 _ _ _ _ _ _ hw1 (hh.mono hle)).mono ?_;rintro e w' ⟨rfl,hb2⟩))
  go_ret2
  exact⟨by rw[hf];rfl,hx.below.trans (hb2.mono hx.below.size)⟩
 ·have he:aq2 (valid h)=0:=by rw[hv];rfl
  have hV:=ad3.1 hv
  have hf:aT7 h=ar0 h []:=by unfold aT7;rw[hv];rfl
  go_enter Tryz.func30,Tryz.ntmps30
  go_wp2_with(first|(refine af8 rfl _ rfl (Ext.refl hw) ?_;intro B w1 H1 hle hx hB hBw;obtain⟨hc0,hc1,hc2,hc3⟩:=R6 hB;clear hB hw;have hw1:=hx.holds)|(go_at_call 56;refine(aj7 _ _ _ _ _ _ hw1 (hh.mono hle)).mono ?_;rintro e w' ⟨rfl,hb2⟩;have hw2:=hw1.below hb2)|(go_at_call 57;refine(co7 _ _ _ _ hV [] (by simp) _ _ hw2 (hh.mono hle)).mono ?_;rintro e w' ⟨rfl,hb3⟩))
  go_ret2
  exact⟨by rw[hf];rfl,(hx.below.trans (hb2.mono hx.below.size)).trans (hb3.mono (fh1 hx.below.size hb2.size))⟩
end
section
open Go.RowKit
def J3:A9:=⟨[⟨0,2,1⟩,⟨5,3,0⟩],[⟨0,4,0⟩,⟨1,3,0⟩,⟨1,5,1⟩],[10,31],2⟩
def exG:A9:=⟨[⟨0,2,0⟩,⟨5,3,0⟩],[⟨0,4,0⟩,⟨1,3,0⟩,⟨1,5,1⟩],[10,31],2⟩
end
section
open Go.RowKit
attribute [local go_sem] j4.drew j4.alloc j4.drewN WB.holds Oper.semAt_some Q9 O1 J7
theorem be0 (r p s:Int) (w:World):
 Calls Tryz.prog 136 #[.int .i64 r,.int .i64 p,.int .i64 s] w (I1 w (.agg #[.int .i64 r,.int .i64 p,.int .i64 s])):=by
 go_enter Tryz.func136,Tryz.ntmps136
 go_wp2
 refine bodyPost_ret (results_cell_row rfl _ _ w.heap.size 94 _ (0,0) _ rfl (heap_alloc_new w _) Tryz.underlying94 rfl (by kernel_rfl)) rfl ?_
 exact⟨rfl,(Below.refl _ _).alloc (fh0 _) _⟩
theorem bl2 (r p s:Int) (w:World):
 Calls Tryz.prog 137 #[.int .i64 r,.int .i64 p,.int .i64 s] w (I1 w (.agg #[.int .i64 r,.int .i64 p,.int .i64 s])):=by
 go_enter Tryz.func137,Tryz.ntmps137
 go_wp2
 refine bodyPost_ret (results_cell_row rfl _ _ w.heap.size 127 _ (0,0) _ rfl (heap_alloc_new w _) Tryz.underlying127 rfl (by kernel_rfl)) rfl ?_
 exact⟨rfl,(Below.refl _ _).alloc (fh0 _) _⟩
theorem U0 (w:World) (a:Addr) (v:Value) {b:Nat} (h:b≠a.block):(w.setCell a v).heap[b]? =w.heap[b]? :=by
 show(w.heap.modify a.block _)[b]? =_
 rw[Array.getElem?_modify,if_neg (Ne.symm h)]
theorem aH6 (w:World) (o:Obj):(w.alloc o).heap.size=w.heap.size+1:=by simp
theorem bV4 (H:j5) (m:ah4) (h1:K8 m.r) (h2:K8 m.p) (h3:K8 m.s):Enc.rep H m [.int .i64 m.r,.int .i64 m.p,.int .i64 m.s]:=show bT2 m _ from⟨rfl,h1,h2,h3⟩
theorem bV5 (H:j5) (b:ar8) (h1:K8 b.t) (h2:K8 b.h) (h3:K8 b.e):Enc.rep H b [.int .i64 b.t,.int .i64 b.h,.int .i64 b.e]:=show bT3 b _ from⟨rfl,h1,h2,h3⟩
theorem dI8 {w0 w:World} {H0 H:j5} (hx:Ext w0 H0 w H):∃H2,D8 H H2∧Ext w0 H0 (w.alloc (.cells #[.int .i64 0,.int .i64 2,.int .i64 1,.int .i64 5,.int .i64 3,.int .i64 0] 94)) H2∧Sl H2 (.slice (some ⟨w.heap.size,0,none⟩) 2 2) J3.ms:=
 Ext.lit (xs:=J3.ms) (cs:=[.int .i64 0,.int .i64 2,.int .i64 1,.int .i64 5,.int .i64 3,.int .i64 0]) hx
  ⟨_,[.int .i64 5,.int .i64 3,.int .i64 0],rfl,bV4 H ⟨0,2,1⟩ (by constructor<;>decide) (by constructor<;>decide) (by constructor<;>decide),_,[],rfl,bV4 H ⟨5,3,0⟩ (by constructor<;>decide) (by constructor<;>decide) (by constructor<;>decide),rfl⟩ _ (by simp[J3,Enc.M4]) (by simp[J3])
theorem dI9 {w0 w:World} {H0 H:j5} (hx:Ext w0 H0 w H):∃H2,D8 H H2∧Ext w0 H0 (w.alloc (.cells #[.int .i64 0,.int .i64 4,.int .i64 0,.int .i64 1,.int .i64 3,.int .i64 0,.int .i64 1,.int .i64 5,.int .i64 1] 127)) H2∧Sl H2 (.slice (some ⟨w.heap.size,0,none⟩) 3 3) J3.bs:=
 Ext.lit (xs:=J3.bs) (cs:=[.int .i64 0,.int .i64 4,.int .i64 0,.int .i64 1,.int .i64 3,.int .i64 0,.int .i64 1,.int .i64 5,.int .i64 1]) hx
  ⟨_,[.int .i64 1,.int .i64 3,.int .i64 0,.int .i64 1,.int .i64 5,.int .i64 1],rfl,bV5 H ⟨0,4,0⟩ (by constructor<;>decide) (by constructor<;>decide) (by constructor<;>decide),_,[.int .i64 1,.int .i64 5,.int .i64 1],rfl,bV5 H ⟨1,3,0⟩ (by constructor<;>decide) (by constructor<;>decide) (by constructor<;>decide),_,[],rfl,bV5 H ⟨1,5,1⟩ (by constructor<;>decide) (by constructor<;>decide) (by constructor<;>decide),rfl⟩ _ (by simp[J3,Enc.M4]) (by simp[J3])
theorem dJ0 {w0 w:World} {H0 H:j5} (hx:Ext w0 H0 w H):∃H2,D8 H H2∧Ext w0 H0 (w.alloc (.cells #[.int .i64 10,.int .i64 31] 3)) H2∧Sl H2 (.slice (some ⟨w.heap.size,0,none⟩) 2 2) J3.ts:=
 Ext.lit (xs:=J3.ts) (cs:=[.int .i64 10,.int .i64 31]) hx (af6.2 ⟨rfl,fun x hx=>by simp[J3]at hx;unfold K8;omega⟩) _ (by simp[J3,Enc.M4]) (by simp[J3])
theorem cA5 (H:j5) (w:World) (hw:j4 H w):
 Calls Tryz.prog 82 #[] w (Post w H fun v H'=>∃vm vb vt um ub ut,v= .tuple #[U2 vm vb vt J3,U2 um ub ut exG]∧Hou H' vm vb vt J3∧Hou H' um ub ut exG):=by
 go_enter Tryz.func82,Tryz.ntmps82
 go_upto_region 1 with fail
 have hx0:=((Ext.refl hw).alloc (.cells #[.slice none 0 0,.slice none 0 0,.slice none 0 0,.int .i64 0] 26)).alloc (.cells #[.slice none 0 0,.slice none 0 0,.slice none 0 0,.int .i64 0] 26)
 have hr0:Rdy w.heap.size 26 ((w.alloc (.cells #[.slice none 0 0,.slice none 0 0,.slice none 0 0,.int .i64 0] 26)).alloc (.cells #[.slice none 0 0,.slice none 0 0,.slice none 0 0,.int .i64 0] 26)):=Rdy.alloc ⟨_,_,_,_,heap_alloc_new _ _⟩ _
 have hr1:Rdy (w.heap.size+1) 26 ((w.alloc (.cells #[.slice none 0 0,.slice none 0 0,.slice none 0 0,.int .i64 0] 26)).alloc (.cells #[.slice none 0 0,.slice none 0 0,.slice none 0 0,.int .i64 0] 26)):=by
  have h:=heap_alloc_new (w.alloc (.cells #[.slice none 0 0,.slice none 0 0,.slice none 0 0,.int .i64 0] 26)) (.cells #[.slice none 0 0,.slice none 0 0,.slice none 0 0,.int .i64 0] 26)
  rw[show(w.alloc (.cells #[.slice none 0 0,.slice none 0 0,.slice none 0 0,.int .i64 0] 26)).heap.size=w.heap.size+1 by simp]at h
  exact⟨_,_,_,_,h⟩
 generalize(w.alloc (.cells #[.slice none 0 0,.slice none 0 0,.slice none 0 0,.int .i64 0] 26)).alloc (.cells #[.slice none 0 0,.slice none 0 0,.slice none 0 0,.int .i64 0] 26)=W0 at*
 have hg0:w.heap.size≤w.heap.size:=fh0 _
 have hg1:w.heap.size≤w.heap.size+1:=Nat.le_succ _
 have hn0:H w.heap.size=none:=hw.D6 (fh0 _)
 have hn1:H (w.heap.size+1)=none:=hw.D6 (Nat.le_succ _)
 have hne:w.heap.size≠w.heap.size+1:=by omega
 generalize hR0:w.heap.size=R0 at*
 generalize hR1:R0+1=R1 at*
 have hy0:=Ext.refl hx0.holds
 go_upto_region 2 with(first
  |(have hgd:=hy4;clear hgd;go_at_call 137;refine(bl2 _ _ _ _).mono ?_;rintro e w5 ⟨rfl,hb5⟩;have hy5:=hy4.step (hb5.mono hy4.below.size) (hy4.holds.below hb5);have aW9:=hr0.below hy5.below hr0.lt;obtain⟨c0,hc0⟩:=aW9.cell 0 (by omega);obtain⟨c1,hc1⟩:=aW9.cell 1 (by omega);obtain⟨c2,hc2⟩:=aW9.cell 2 (by omega);obtain⟨c3,hc3⟩:=aW9.cell 3 (by omega);have hf0:=aW9.fz 0;have hf1:=aW9.fz 1;have hf2:=aW9.fz 2;have hf3:=aW9.fz 3;have dr7:=aW9.lt)
  |(have hgd:=hy3;clear hgd;go_at_call 137;refine(bl2 _ _ _ _).mono ?_;rintro e w4 ⟨rfl,hb4⟩;have hy4:=hy3.step (hb4.mono hy3.below.size) (hy3.holds.below hb4))
  |(have hgd:=hy2;clear hgd;go_at_call 137;refine(bl2 _ _ _ _).mono ?_;rintro e w3 ⟨rfl,hb3⟩;obtain⟨HA,cO6,hyA,hsM⟩:=dI8 hy2;have hy3:=hyA.step (hb3.mono hyA.below.size) (hyA.holds.below hb3))
  |(have hgd:=hy1;clear hgd;go_at_call 136;refine(be0 _ _ _ _).mono ?_;rintro e w2 ⟨rfl,hb2⟩;have hy2:=hy1.step (hb2.mono hy1.below.size) (hy1.holds.below hb2))
  |(go_at_call 136;refine(be0 _ _ _ _).mono ?_;rintro e w1 ⟨rfl,hb1⟩;have hy1:=hy0.step (hb1.mono hy0.below.size) (hy0.holds.below hb1)))
 have q0:=((hx0.trans hy5).setCell (a:=⟨R0,0,none⟩) (by rw[hR0];exact hg0) ((hy5.same R0 hr0.lt).trans hn0) (.slice (some ⟨w2.heap.size,0,none⟩) 2 2))
 have q1:=q0.setCell (a:=⟨R0,1,none⟩) (by rw[hR0];exact hg0) ((hy5.same R0 hr0.lt).trans hn0) (.slice (some ⟨w5.heap.size,0,none⟩) 3 3)
 have q2:=q1.setCell (a:=⟨R0,2,none⟩) (by rw[hR0];exact hg0) ((hy5.same R0 hr0.lt).trans hn0) (.slice (some ⟨w5.heap.size+1,0,none⟩) 2 2)
 have q3:=q2.setCell (a:=⟨R0,3,none⟩) (by rw[hR0];exact hg0) ((hy5.same R0 hr0.lt).trans hn0) (.int .i64 2)
 clear q0 q1 q2
 have hrow:=aW9.row (.slice (some ⟨w2.heap.size,0,none⟩) 2 2) (.slice (some ⟨w5.heap.size,0,none⟩) 3 3) (.slice (some ⟨w5.heap.size+1,0,none⟩) 2 2) (.int .i64 2)
 have cP7:=(((((hr1.below hy5.below hr1.lt).other (a:=⟨R0,0,none⟩) hne (.slice (some ⟨w2.heap.size,0,none⟩) 2 2)).other (a:=⟨R0,1,none⟩) hne (.slice (some ⟨w5.heap.size,0,none⟩) 3 3)).other (a:=⟨R0,2,none⟩) hne (.slice (some ⟨w5.heap.size+1,0,none⟩) 2 2)).other (a:=⟨R0,3,none⟩) hne (.int .i64 2))
 have hsz:((((w5.setCell ⟨R0,0,none⟩ (.slice (some ⟨w2.heap.size,0,none⟩) 2 2)).setCell ⟨R0,1,none⟩ (.slice (some ⟨w5.heap.size,0,none⟩) 3 3)).setCell ⟨R0,2,none⟩ (.slice (some ⟨w5.heap.size+1,0,none⟩) 2 2)).setCell ⟨R0,3,none⟩ (.int .i64 2)).heap.size=w5.heap.size:=by simp
 generalize(((w5.setCell ⟨R0,0,none⟩ (.slice (some ⟨w2.heap.size,0,none⟩) 2 2)).setCell ⟨R0,1,none⟩ (.slice (some ⟨w5.heap.size,0,none⟩) 3 3)).setCell ⟨R0,2,none⟩ (.slice (some ⟨w5.heap.size+1,0,none⟩) 2 2)).setCell ⟨R0,3,none⟩ (.int .i64 2)=w6 at*
 obtain⟨HB,bU7,yB,hsB⟩:=dI9 (Ext.refl q3.holds)
 obtain⟨HC,bV6,yC,hsT⟩:=dJ0 yB
 rw[aH6,hsz]at hsT
 rw[hsz]at hsB
 have q8:=q3.trans yC
 have hN0:HC R0=none:=(yC.same R0 (by rw[hsz];exact dr7)).trans ((hy5.same R0 hr0.lt).trans hn0)
 have hN1:HC R1=none:=(yC.same R1 cP7.lt).trans ((hy5.same R1 hr1.lt).trans hn1)
 have bA9:=(yC.below.block R0 (by rw[hsz];exact dr7)).trans hrow
 have dr8:=cP7.below yC.below cP7.lt
 have eu1:=(hsM.mono bU7).mono bV6
 have eu2:=hsB.mono bV6
 clear q3 yB yC hrow cP7 hsM hsB aW9 hc0 hc1 hc2 hc3 hf0 hf1 hf2 hf3 hr0 hr1 hy5 hx0 hy0 hy1 hy2 hy3 hy4 hyA hb1 hb2 hb3 hb4 hb5
 generalize(w6.alloc (.cells #[.int .i64 0,.int .i64 4,.int .i64 0,.int .i64 1,.int .i64 3,.int .i64 0,.int .i64 1,.int .i64 5,.int .i64 1] 127)).alloc (.cells #[.int .i64 10,.int .i64 31] 3)=w8 at*
 generalize(Value.slice (some ⟨w2.heap.size,0,none⟩) 2 2)=vm at*
 generalize(Value.slice (some ⟨w5.heap.size,0,none⟩) 3 3)=vb at*
 generalize(Value.slice (some ⟨w5.heap.size+1,0,none⟩) 2 2)=vt at*
 have hH:Hou HC vm vb vt J3:=⟨eu1,eu2,hsT,by decide⟩
 have hcell:∀i,w8.cell? ⟨R0,i,none⟩=(#[vm,vb,vt,.int .i64 2]:Array Value)[i]? :=fun i=>cell_of_row w8 R0 i _ _ _ bA9
 have d0:=hcell 0
 have d1:=hcell 1
 have d2:=hcell 2
 have d3:=hcell 3
 simp at d0 d1 d2 d3
 have hw8:=q8.holds
 have hcopy:Calls Tryz.prog 72 #[.agg #[vm,vb,vt,.int .i64 2]] w8 (dy0 w8 HC J3):=bZ0 vm vb vt J3 HC w8 hw8 hH
 clear hsz dr7
 go_upto_region 3 with(go_at_call 72;refine hcopy.mono ?_;rintro e w9 ⟨um,ub,ut,H9,rfl,hx9,om,ob,ot⟩;obtain⟨am,cm,rfl,_,_⟩:=om.form;obtain⟨ab,cb,rfl,_,_⟩:=ob.form;obtain⟨at',ct,rfl,_,_⟩:=ot.form;have be1:=dr8.below hx9.below dr8.lt;obtain⟨c0,hc0⟩:=be1.cell 0 (by omega);obtain⟨c1,hc1⟩:=be1.cell 1 (by omega);obtain⟨c2,hc2⟩:=be1.cell 2 (by omega);obtain⟨c3,hc3⟩:=be1.cell 3 (by omega);have hf0:=be1.fz 0;have hf1:=be1.fz 1;have hf2:=be1.fz 2;have hf3:=be1.fz 3)
 have hrl:=dr8.lt
 have dA5:=be1.row (.slice am J3.ms.length cm) (.slice ab J3.bs.length cb) (.slice at' J3.ts.length ct) (.int .i64 J3.ch)
 have om9:=om.aQ0 hrl (i:=0) (j:=1) (k:=2) (l:=3) (.slice am J3.ms.length cm) (.slice ab J3.bs.length cb) (.slice at' J3.ts.length ct) (.int .i64 J3.ch)
 have ob9:=ob.aQ0 hrl (i:=0) (j:=1) (k:=2) (l:=3) (.slice am J3.ms.length cm) (.slice ab J3.bs.length cb) (.slice at' J3.ts.length ct) (.int .i64 J3.ch)
 have ot9:=ot.aQ0 hrl (i:=0) (j:=1) (k:=2) (l:=3) (.slice am J3.ms.length cm) (.slice ab J3.bs.length cb) (.slice at' J3.ts.length ct) (.int .i64 J3.ch)
 have bl3:H9 R1=none:=(hx9.same R1 hrl).trans hN1
 have cP8:H9 R0=none:=(hx9.same R0 (Array.getElem?_eq_some_iff.1 bA9).1).trans hN0
 have hg1':w.heap.size≤R1:=by rw[hR0];exact hg1
 have q9:=((((q8.trans hx9).setCell (a:=⟨R1,0,none⟩) hg1' bl3 (.slice am J3.ms.length cm)).setCell (a:=⟨R1,1,none⟩) hg1' bl3 (.slice ab J3.bs.length cb)).setCell (a:=⟨R1,2,none⟩) hg1' bl3 (.slice at' J3.ts.length ct)).setCell (a:=⟨R1,3,none⟩) hg1' bl3 (.int .i64 J3.ch)
 have cq2:((((w9.setCell ⟨R1,0,none⟩ (.slice am J3.ms.length cm)).setCell ⟨R1,1,none⟩ (.slice ab J3.bs.length cb)).setCell ⟨R1,2,none⟩ (.slice at' J3.ts.length ct)).setCell ⟨R1,3,none⟩ (.int .i64 J3.ch)).heap[R0]? =some (.cells #[vm,vb,vt,.int .i64 2] 26 (0,0)):=by
  rw[U0 _ _ _ hne,U0 _ _ _ hne,U0 _ _ _ hne,U0 _ _ _ hne,hx9.below.block R0 (Array.getElem?_eq_some_iff.1 bA9).1]
  exact bA9
 have hwB:w.heap.size≤w8.heap.size:=q8.below.size
 have hhC:=hH.mono (hx9.le hw8)
 clear hc0 hc1 hc2 hc3 hf0 hf1 hf2 hf3 be1 om ob ot hcopy d0 d1 d2 d3 hcell
 generalize(((w9.setCell ⟨R1,0,none⟩ (.slice am J3.ms.length cm)).setCell ⟨R1,1,none⟩ (.slice ab J3.bs.length cb)).setCell ⟨R1,2,none⟩ (.slice at' J3.ts.length ct)).setCell ⟨R1,3,none⟩ (.int .i64 J3.ch)=V at*
 obtain⟨g,cg,hev,hgb,hgn,eu3,⟨cur,hgc,hgs⟩,hset⟩:=om9.at3 rfl (k:=0) (by decide)
 cases hev
 have cP9:g≠R1:=by omega
 have dr9:g≠R0:=by have:=(Array.getElem?_eq_some_iff.1 bA9).1;omega
 have hpR:=j5.G7 H9 R1 (.cells #[.slice (some ⟨g,0,none⟩) J3.ms.length cm,.slice ab J3.bs.length cb,.slice at' J3.ts.length ct,.int .i64 J3.ch] 26 (0,0))
 have hwV:=(q9.holds.put dA5)
 have ds4:=j5.L9 bl3 (.cells #[.slice (some ⟨g,0,none⟩) J3.ms.length cm,.slice ab J3.bs.length cb,.slice at' J3.ts.length ct,.int .i64 J3.ch] 26 (0,0))
 have eu4:(H9.put R1 (.cells #[.slice (some ⟨g,0,none⟩) J3.ms.length cm,.slice ab J3.bs.length cb,.slice at' J3.ts.length ct,.int .i64 J3.ch] 26 (0,0))) g=none:=(j5.F3 _ _ cP9).trans hgn
 generalize H9.put R1 (.cells #[.slice (some ⟨g,0,none⟩) J3.ms.length cm,.slice ab J3.bs.length cb,.slice at' J3.ts.length ct,.int .i64 J3.ch] 26 (0,0))=HR at*
 have e0:∀w,j4 HR w→w.cell? ⟨R1,0,none⟩=some (.slice (some ⟨g,0,none⟩) J3.ms.length cm):=fun w hw=>D7 hpR hw 0
 have e1:∀w,j4 HR w→w.cell? ⟨R1,1,none⟩=some (.slice ab J3.bs.length cb):=fun w hw=>D7 hpR hw 1
 have e2:∀w,j4 HR w→w.cell? ⟨R1,2,none⟩=some (.slice at' J3.ts.length ct):=fun w hw=>D7 hpR hw 2
 have e3:∀w,j4 HR w→w.cell? ⟨R1,3,none⟩=some (.int .i64 J3.ch):=fun w hw=>D7 hpR hw 3
 refine(wpIn_wide (n:=3)).1 ?_
 show Code.wpIn (FW none) 3 _ _ _ _ _
 have hnq:Nonempty (WB HR V):=⟨⟨V,hwV,Below.refl _ _⟩⟩
 refine X0 (C:=fun w'=>∃x:WB HR V,w'=x.w) 4 (by kernel_rfl) (by kernel_rfl) (by kernel_rfl) ⟨⟨V.drew,hwV.drew,(Below.refl _ _).drew⟩,rfl⟩ ?_
 simp only[List.take_succ_cons,List.take_zero,ff5,ff6]
 have hl2:(0:Int)<(J3.ms.length:Int):=by decide
 repeat go_big_quiet_step((go_at_call 136;exact Calls.am7 (be0 _ _ _ _)))
 refine wpQuiet_nil ?_
 clear hnq
 rintro V2 ⟨⟨_,hV2,hb2⟩,rfl⟩
 have bI2:=(hb2.block g eu3).trans hgc
 have z0:=cell_of_row V2 g 0 _ _ _ bI2
 have z1:=cell_of_row V2 g 1 _ _ _ bI2
 have z2:=cell_of_row V2 g 2 _ _ _ bI2
 rw[Array.getElem?_eq_getElem (by have:J3.ms.length=2:=rfl;omega)]at z0 z1 z2
 have f0:V2.frozen? ⟨g,0,none⟩=false:=by simp[World.frozen?,bI2]
 have f1:V2.frozen? ⟨g,1,none⟩=false:=by simp[World.frozen?,bI2]
 have f2:V2.frozen? ⟨g,2,none⟩=false:=by simp[World.frozen?,bI2]
 gi_wp2
 have xV:Ext V H9 V2 H9:=⟨hb2,hV2.mono ds4,fun _ _=>rfl⟩
 have om2:=om9.ext q9.holds xV
 have ob2:=ob9.ext q9.holds xV
 have ot2:=ot9.ext q9.holds xV
 obtain⟨g',cg',eu5,_,_,_,_,dA8⟩:=om2.at3 rfl (k:=0) (by decide)
 cases eu5
 have hgw:w.heap.size≤g:=fh1 hwB hgb
 have omG:=dA8 ⟨0,2,0⟩ _ _ _ (bV4 H9 ⟨0,2,0⟩ (by constructor<;>decide) (by constructor<;>decide) (by constructor<;>decide))
 have nb:(Value.slice ab J3.bs.length cb).ownBlock≠some g:=by
  rcases ob2.apart om2 (by decide)with e|e
  ·rw[e];simp
  ·exact e
 have nt:(Value.slice at' J3.ts.length ct).ownBlock≠some g:=by
  rcases ot2.apart om2 (by decide)with e|e
  ·rw[e];simp
  ·exact e
 have obG:=((ob2.setCell (a:=⟨g,0,none⟩) nb (.int .i64 0)).setCell (a:=⟨g,1,none⟩) nb (.int .i64 2)).setCell (a:=⟨g,2,none⟩) nb (.int .i64 0)
 have otG:=((ot2.setCell (a:=⟨g,0,none⟩) nt (.int .i64 0)).setCell (a:=⟨g,1,none⟩) nt (.int .i64 2)).setCell (a:=⟨g,2,none⟩) nt (.int .i64 0)
 have qG:=(((q9.step (hb2.mono q9.below.size) (hV2.mono ds4)).setCell (a:=⟨g,0,none⟩) hgw hgn (.int .i64 0)).setCell (a:=⟨g,1,none⟩) hgw hgn (.int .i64 2)).setCell (a:=⟨g,2,none⟩) hgw hgn (.int .i64 0)
 have hrA:(((V2.setCell ⟨g,0,none⟩ (.int .i64 0)).setCell ⟨g,1,none⟩ (.int .i64 2)).setCell ⟨g,2,none⟩ (.int .i64 0)).heap[R0]? =some (.cells #[vm,vb,vt,.int .i64 2] 26 (0,0)):=by
  rw[U0 _ _ _ (Ne.symm dr9),U0 _ _ _ (Ne.symm dr9),U0 _ _ _ (Ne.symm dr9),hb2.block R0 (Array.getElem?_eq_some_iff.1 cq2).1]
  exact cq2
 have hrB:(((V2.setCell ⟨g,0,none⟩ (.int .i64 0)).setCell ⟨g,1,none⟩ (.int .i64 2)).setCell ⟨g,2,none⟩ (.int .i64 0)).heap[R1]? =some (.cells #[.slice (some ⟨g,0,none⟩) J3.ms.length cm,.slice ab J3.bs.length cb,.slice at' J3.ts.length ct,.int .i64 J3.ch] 26 (0,0)):=by
  rw[U0 _ _ _ (Ne.symm cP9),U0 _ _ _ (Ne.symm cP9),U0 _ _ _ (Ne.symm cP9)]
  exact hV2.at_ _ _ hpR
 clear hset dA8 om2 ob2 ot2 om9 ob9 ot9 xV z0 z1 z2 f0 f1 f2 bI2 hpR hwV ds4 eu4 e0 e1 e2 e3 hV2 hb2 q9 cq2 dA5 hgc hgs
 generalize((V2.setCell ⟨g,0,none⟩ (.int .i64 0)).setCell ⟨g,1,none⟩ (.int .i64 2)).setCell ⟨g,2,none⟩ (.int .i64 0)=W at*
 obtain⟨ma,mc,rfl,_,_⟩:=hhC.m.form
 obtain⟨ba,bc,rfl,_,_⟩:=hhC.b.form
 obtain⟨ta,tc,rfl,_,_⟩:=hhC.t.form
 have a0:=cell_of_row W R0 0 _ _ _ hrA
 have a1:=cell_of_row W R0 1 _ _ _ hrA
 have a2:=cell_of_row W R0 2 _ _ _ hrA
 have a3:=cell_of_row W R0 3 _ _ _ hrA
 have b0:=cell_of_row W R1 0 _ _ _ hrB
 have b1:=cell_of_row W R1 1 _ _ _ hrB
 have b2:=cell_of_row W R1 2 _ _ _ hrB
 have b3:=cell_of_row W R1 3 _ _ _ hrB
 simp at a0 a1 a2 a3 b0 b1 b2 b3
 have fa:=fun i=>(show W.frozen? ⟨R0,i,none⟩=false by simp[World.frozen?,hrA])
 have fb:=fun i=>(show W.frozen? ⟨R1,i,none⟩=false by simp[World.frozen?,hrB])
 have fa0:=fa 0
 have fa1:=fa 1
 have fa2:=fa 2
 have fa3:=fa 3
 have fb0:=fb 0
 have fb1:=fb 1
 have fb2:=fb 2
 have fb3:=fb 3
 go_wp2
 go_region
 all_goals go_wp2
 have hl0:R0<w8.heap.size:=(Array.getElem?_eq_some_iff.1 bA9).1
 have rA:Rdy R0 26 W:=⟨_,_,_,_,hrA⟩
 have rB:Rdy R1 26 W:=⟨_,_,_,_,hrB⟩
 have rA':=rA.row (.slice ma J3.ms.length mc) (.slice ba J3.bs.length bc) (.slice ta J3.ts.length tc) (.int .i64 2)
 have rB':=((((rB.other (a:=⟨R0,0,none⟩) hne (.slice ma J3.ms.length mc)).other (a:=⟨R0,1,none⟩) hne (.slice ba J3.bs.length bc)).other (a:=⟨R0,2,none⟩) hne (.slice ta J3.ts.length tc)).other (a:=⟨R0,3,none⟩) hne (.int .i64 2)).row (.slice (some ⟨g,0,none⟩) J3.ms.length cm) (.slice ab J3.bs.length cb) (.slice at' J3.ts.length ct) (.int .i64 J3.ch)
 have hg0':w.heap.size≤R0:=by rw[hR0];exact hg0
 have qF:=(((((((qG.setCell (a:=⟨R0,0,none⟩) hg0' cP8 (.slice ma J3.ms.length mc)).setCell (a:=⟨R0,1,none⟩) hg0' cP8 (.slice ba J3.bs.length bc)).setCell (a:=⟨R0,2,none⟩) hg0' cP8 (.slice ta J3.ts.length tc)).setCell (a:=⟨R0,3,none⟩) hg0' cP8 (.int .i64 2)).setCell (a:=⟨R1,0,none⟩) hg1' bl3 (.slice (some ⟨g,0,none⟩) J3.ms.length cm)).setCell (a:=⟨R1,1,none⟩) hg1' bl3 (.slice ab J3.bs.length cb)).setCell (a:=⟨R1,2,none⟩) hg1' bl3 (.slice at' J3.ts.length ct)).setCell (a:=⟨R1,3,none⟩) hg1' bl3 (.int .i64 J3.ch)
 have omF:=((omG.aQ0 hl0 (i:=0) (j:=1) (k:=2) (l:=3) (.slice ma J3.ms.length mc) (.slice ba J3.bs.length bc) (.slice ta J3.ts.length tc) (.int .i64 2)).aQ0 hrl (i:=0) (j:=1) (k:=2) (l:=3) (.slice (some ⟨g,0,none⟩) J3.ms.length cm) (.slice ab J3.bs.length cb) (.slice at' J3.ts.length ct) (.int .i64 J3.ch)).weaken hwB
 have obF:=((obG.aQ0 hl0 (i:=0) (j:=1) (k:=2) (l:=3) (.slice ma J3.ms.length mc) (.slice ba J3.bs.length bc) (.slice ta J3.ts.length tc) (.int .i64 2)).aQ0 hrl (i:=0) (j:=1) (k:=2) (l:=3) (.slice (some ⟨g,0,none⟩) J3.ms.length cm) (.slice ab J3.bs.length cb) (.slice at' J3.ts.length ct) (.int .i64 J3.ch)).weaken hwB
 have otF:=((otG.aQ0 hl0 (i:=0) (j:=1) (k:=2) (l:=3) (.slice ma J3.ms.length mc) (.slice ba J3.bs.length bc) (.slice ta J3.ts.length tc) (.int .i64 2)).aQ0 hrl (i:=0) (j:=1) (k:=2) (l:=3) (.slice (some ⟨g,0,none⟩) J3.ms.length cm) (.slice ab J3.bs.length cb) (.slice at' J3.ts.length ct) (.int .i64 J3.ch)).weaken hwB
 obtain⟨HF,xF,lF,s1,s2,s3⟩:=Own.cX4 qF.drew omF.drew obF.drew otF.drew (by decide) (by decide) (by decide)
 have hdr:∀W':World,W'.drew.heap=W'.heap:=fun _=>rfl
 have s1':Sl HF (.slice (some ⟨g,0,none⟩) J3.ms.length cm) exG.ms:=s1
 have s2':Sl HF (.slice ab J3.bs.length cb) exG.bs:=s2
 have s3':Sl HF (.slice at' J3.ts.length ct) exG.ts:=s3
 refine bodyPost_ret (aR2 rfl _ _ R0 R1 26 26 _ _ (0,0) (0,0) _ _ rfl rfl
  (by
   rw[hdr,U0 _ _ _ hne,U0 _ _ _ hne,U0 _ _ _ hne,U0 _ _ _ hne];exact rA') (by rw[hdr];exact rB')
  Tryz.underlying26 rfl (by kernel_rfl) Tryz.underlying26 rfl (by kernel_rfl)) rfl ?_
 exact⟨_,HF,rfl,xF,_,_,_,_,_,_,rfl,hhC.mono lF,⟨s1',s2',s3',by decide⟩⟩
end
section
theorem bv0 {h:A9} {a b:List Int} {t:Int}:∀(k:Nat),(∀i,i<k→a.getD i 0=b.getD i 0)→af5 h a t k=af5 h b t k
 |0,_=>rfl
 |k+1,hk=>by
  have ih:=bv0 (h:=h) (t:=t) k (fun i hi=>hk i (by omega))
  simp only[af5,ih,hk k (by omega)]
theorem bp8 {h:A9} (hv:Valid h) {ts:List Int} (hts:∀x∈ts,-1≤x∧x≤1000) {t:Nat} (ht:t<h.ts.length):∀k,k≤h.bs.length→
 (af5 h ts t k=none∧(U9 h ts k).getD t 0=1048576)∨
 (af5 h ts t k=some (-100000)∧(U9 h ts k).getD t 0=0∧∀i,i<k→(X9 h (i:Nat)).t≠(t:Int))∨
 (af5 h ts t k=some ((U9 h ts k).getD t 0-h.ts.getD t 0)∧0≤(U9 h ts k).getD t 0∧(U9 h ts k).getD t 0≤1000)
 |0,_=>by
  refine .inr (.inl ⟨rfl, ?_,fun i hi=>by omega⟩)
  have ht4:=hv.t4
  rcases(by omega:t=0∨t=1∨t=2∨t=3)with rfl|rfl|rfl|rfl<;>rfl
 |k+1,hk=>by
  have ih:=bp8 hv hts ht k (by omega)
  have ht4:=hv.t4
  have hlen:=az9 h ts k
  have hrb:=aS7 (h:=h) hts k
  have hb:=ch1 hv (show k<h.bs.length by omega)
  have hbk:(h.bs.getD k default)=X9 h (k:Nat):=by unfold X9;simp
  have hx:=aM4 (lo:= -1) (hi:=1000) (by omega) hts k
  have htr:=aJ7 hv t
  by_cases e:(X9 h (k:Nat)).t=(t:Int)
  ·have hset:(U9 h ts (k+1)).getD t 0=max ((U9 h ts k).getD t 0) (if ts.getD k 0= -1 then 1048576 else ts.getD k 0):=by
    simp only[U9,e,fh8]
    rw[ff3,List.getElem?_set_self (by omega)]
    rfl
   have hov:af5 h ts t (k+1)=match af5 h ts t k with
    |none=>none
    |some o=>if ts.getD k 0<0 then none else some (max o (ts.getD k 0-h.ts.getD t 0)):=by
    simp only[af5,e,if_true,fh8]
    cases af5 h ts (t:Int) k<;>rfl
   rw[hset,hov]
   rcases ih with⟨h1,h2⟩|⟨h1,h2,h3⟩|⟨h1,h2,h3⟩
   ·rw[h1,h2]
    refine .inl ⟨rfl, ?_⟩
    split<;>omega
   ·rw[h1,h2]
    by_cases hn:ts.getD k 0<0
    ·refine .inl ⟨by simp only[hn,if_true], ?_⟩
     rw[if_pos (by omega)];omega
    ·refine .inr (.inr ⟨?_, ?_, ?_⟩)
     ·simp only[hn,if_false]
      rw[if_neg (by omega)]
      congr 1
      omega
     ·rw[if_neg (by omega)];omega
     ·rw[if_neg (by omega)];omega
   ·rw[h1]
    by_cases hn:ts.getD k 0<0
    ·refine .inl ⟨by simp only[hn,if_true], ?_⟩
     rw[if_pos (by omega)];omega
    ·refine .inr (.inr ⟨?_, ?_, ?_⟩)
     ·simp only[hn,if_false]
      rw[if_neg (by omega)]
      congr 1
      omega
     ·rw[if_neg (by omega)];omega
     ·rw[if_neg (by omega)];omega
  ·have hb0:0≤(X9 h (k:Nat)).t:=by rw[←hbk];first|exact hb.1|(rw[hbk];exact hb.1)
   have hne:(X9 h (k:Nat)).t.toNat≠t:=by omega
   have hset:(U9 h ts (k+1)).getD t 0=(U9 h ts k).getD t 0:=by
    simp only[U9]
    rw[ff3,List.getElem?_set_ne hne,←ff3]
   have hov:af5 h ts t (k+1)=af5 h ts t k:=by
    simp only[af5,e,if_false]
    cases af5 h ts t k<;>rfl
   rw[hset,hov]
   rcases ih with ih|⟨h1,h2,h3⟩|ih
   ·exact .inl ih
   ·refine .inr (.inl ⟨h1,h2,fun i hi=> ?_⟩)
    by_cases hik:i=k
    ·subst hik;exact e
    ·exact h3 i (by omega)
   ·exact .inr (.inr ih)
theorem bl4 {h:A9} (hv:Valid h) {p:List (List Int)} (hp:aa8 h p=true) {t:Nat} (ht:t<h.ts.length):
 (aE6 h p t=100000∧(M3 h p).getD t 0=1048576)∨
 (aE6 h p t= -100000∧(M3 h p).getD t 0=0∧∀i,i<h.bs.length→(X9 h (i:Nat)).t≠(t:Int))∨
 (aE6 h p t=(M3 h p).getD t 0-h.ts.getD t 0∧0≤(M3 h p).getD t 0∧(M3 h p).getD t 0≤1000):=by
 have e:af5 h (aw3 h p) t h.bs.length=af5 h (aV5 h p) t h.bs.length:=by
  refine bv0 _ fun i hi=> ?_
  rw[bT7 hv.b5 hp,ff3,ff3,List.getElem?_append_left (by rw[bC0];exact hi)]
 unfold aE6
 rw[e]
 rcases bp8 hv (bz6 hv hp) ht h.bs.length (fh0 _)with⟨h1,h2⟩|⟨h1,h2,h3⟩|⟨h1,h2,h3⟩
 ·exact .inl ⟨by rw[h1];rfl,h2⟩
 ·exact .inr (.inl ⟨by rw[h1];rfl,h2,h3⟩)
 ·exact .inr (.inr ⟨by rw[h1];rfl,h2,h3⟩)
theorem bv1 (h:A9) (p:List (List Int)):(ad4 h p).Nodup:=by
 unfold ad4 aG9
 exact List.pairwise_map.2 ((List.nodup_range.sublist List.filter_sublist).imp fun hne e=>hne (Int.ofNat.inj e))
theorem bE9 {l:List Int} {t:Int} (hn:l.Nodup):(l.all fun x=>decide (x∈[t]))=true↔l=[]∨l=[t]:=by
 constructor
 ·intro h
  simp only[List.all_eq_true,decide_eq_true_eq,List.mem_singleton]at h
  match l,hn,h with
  |[],_,_=>exact .inl rfl
  |[x],_,h=>exact .inr (by rw[h x (by simp)])
  |x::y::l,hn,h=>exact absurd ((h x (by simp)).trans (h y (by simp)).symm) (by simp at hn;exact hn.1.1)
 ·rintro(rfl|rfl)<;>simp
def ay5 (x y:Int):Prop:=x=y∨(1000<x∧1000<y)
theorem ay5.min {x y x' y':Int} (h:ay5 x y) (k:ay5 x' y'):ay5 (min x x') (min y y'):=by unfold ay5 at*;omega
theorem ay5.max {x y x' y':Int} (h:ay5 x y) (k:ay5 x' y'):ay5 (max x x') (max y y'):=by unfold ay5 at*;omega
theorem cq3 {h:A9} (hv:Valid h) {t:Nat} (ht:t<h.ts.length) {p:List (List Int)} (hp:aa8 h p=true) {x y:Int} (hxy:ay5 x y):ay5 (ab2 h t x p) (bh6 h t y p):=by
 unfold ab2 bh6
 by_cases e:ad4 h p=[]∨ad4 h p=[(t:Int)]
 ·rw[if_pos ((bE9 (bv1 h p)).2 e),if_pos e]
  refine hxy.min ?_
  have htr:=aJ7 hv t
  have:=bl4 hv hp ht
  unfold ay5
  omega
 ·rw[if_neg (fun k=>e ((bE9 (bv1 h p)).1 k)),if_neg e]
  exact hxy
theorem bv2 {h:A9} (hv:Valid h) {t:Nat} (ht:t<h.ts.length):∀(l:List (List (List Int))) {x y:Int},(∀p∈l,aa8 h p=true)→ay5 x y→ay5 (l.foldl (ab2 h t) x) (l.foldl (bh6 h t) y)
 |[],_,_,_,hxy=>hxy
 |p::l,_,_,hl,hxy=>bv2 hv ht l (fun q hq=>hl q (by simp[hq])) (cq3 hv ht (hl p (by simp)) hxy)
theorem bp9 {h:A9} (hv:Valid h) {t:Nat} (ht:t<h.ts.length):∀(l:List Int) {x y:Int},ay5 x y→ay5 (l.foldl (fun o c=>max o (af7 h t c)) x) (l.foldl (fun o c=>max o (cj1 h t c)) y)
 |[],_,_,hxy=>hxy
 |c::l,_,_,hxy=>bp9 hv ht l (hxy.max (bv2 hv ht (ac1 h c) (af1 hv c) (.inr (by omega))))
theorem cA6 {h:A9} (hv:Valid h) {t:Nat} (ht:t<h.ts.length):ay5 (aC0 h t) (aM2 h t):=bp9 hv ht _ (.inl rfl)
theorem bl5 (h:A9) (t:Int):aF2 h t=bz8 h t∧aW6 h t=bz7 h t:=by
 unfold aF2 bz8 aW6 bz7 bG8
 cases hb:valid h
 ·simp
 ·cases hw:within t 0 ((h.ts.length:Int)-1)
  ·simp
  ·have hv:=ad3.1 hb
   have htb:=within_iff.1 hw
   obtain⟨j,rfl⟩:=Int.eq_ofNat_of_zero_le htb.1
   have hj:j<h.ts.length:=by omega
   have hf:=cA6 hv hj
   have htr:=aJ7 hv j
   rw[fh8]
   simp only[Bool.true_and,if_true]
   unfold ay5 at hf
   by_cases e:h.ts.getD j 0+aC0 h j≤99
   ·have h2:¬99-h.ts.getD j 0<aM2 h j:=by omega
    have h3:aC0 h j=aM2 h j:=by omega
    rw[if_neg h2,if_neg h2,if_pos e,decide_eq_true e,if_pos rfl]
    exact⟨h3,rfl⟩
   ·have h2:99-h.ts.getD j 0<aM2 h j:=by omega
    rw[if_pos h2,if_pos h2,if_neg e,decide_eq_false e,if_neg (by decide)]
    exact⟨rfl,rfl⟩
def cl (x:Int):Int:=max (-1) (min 99 x)
theorem cq4 (x y:Int):cl (min x y)=min (cl x) (cl y):=by unfold cl;omega
theorem de6 (x y:Int):cl (max x y)=max (cl x) (cl y):=by unfold cl;omega
theorem bI3 {α:Type} (f:α→Int):∀(l:List α) (a m:Int),m≤cl (l.foldl (fun o x=>min o (f x)) a)↔m≤cl a∧∀x∈l,m≤cl (f x)
 |[],a,m=>by simp
 |x::l,a,m=>by
  rw[List.foldl_cons,bI3 f l,cq4]
  simp only[List.mem_cons,forall_eq_or_imp]
  constructor
  ·rintro⟨h1,h2⟩
   exact⟨by omega,by omega,h2⟩
  ·rintro⟨h1,h2,h3⟩
   exact⟨by omega,h3⟩
theorem ef7 (x:Int): -1≤cl x∧cl x≤99:=by unfold cl;omega
theorem ds5 {h:A9} (hv:Valid h) {p:List (List Int)} (hp:aa8 h p=true):cl (ad2 h p)=cl (aO7 h p):=by
 have hT:∀m,m≤cl (ad2 h p)↔m≤cl 99∧∀b∈h.bs,m≤cl (h.ts.getD b.t.toNat 0-(M3 h p).getD b.t.toNat 0):=fun m=>bI3 (fun b:ar8=>h.ts.getD b.t.toNat 0-(M3 h p).getD b.t.toNat 0) h.bs 99 m
 have hR:∀m,m≤cl (aO7 h p)↔m≤cl 100000∧∀t∈List.range h.ts.length,m≤cl (-(aE6 h p (t:Nat))):=fun m=>bI3 (fun t:Nat=> -(aE6 h p (t:Int))) (List.range h.ts.length) 100000 m
 have c99:cl 99=99:=by decide
 have dR7:cl 100000=99:=by decide
 apply Int.le_antisymm
 ·rw[hR]
  have h1:=(hT _).1 (Int.le_refl (cl (ad2 h p)))
  refine⟨by rw[dR7,←c99];exact h1.1,fun t ht=> ?_⟩
  have ht':t<h.ts.length:=List.mem_range.1 ht
  have htr:=aJ7 hv t
  rcases bl4 hv hp ht' with⟨e1,e2⟩|⟨e1,_,_⟩|⟨e1,e2,e3⟩
  ·by_cases hb:∃b∈h.bs,b.t=(t:Int)
   ·obtain⟨b,hbm,hbt⟩:=hb
    have:=h1.2 b hbm
    rw[hbt,fh8,e2]at this
    rw[e1]
    unfold cl at*
    omega
   ·exfalso
    have hall:∀k,k≤h.bs.length→af5 h (aw3 h p) t k=some (-100000):=by
     intro k
     induction k with
     |zero=>intro _;rfl
     |succ k ih=>
      intro hk
      have hne:(X9 h (k:Nat)).t≠(t:Int):=fun e=>hb ⟨h.bs[k],List.getElem_mem _,by rw[←e];unfold X9;simp[ff3,fg0 (show k<h.bs.length by omega)]⟩
      simp only[af5,ih (by omega),hne,if_false]
    unfold aE6 at e1
    rw[hall _ (fh0 _)]at e1
    have e4:(-100000:Int)=100000:=e1
    omega
  ·rw[e1]
   have:=ef7 (ad2 h p)
   rw[show cl (-(-100000))=99 by decide]
   exact this.2
  ·by_cases hb:∃b∈h.bs,b.t=(t:Int)
   ·obtain⟨b,hbm,hbt⟩:=hb
    have:=h1.2 b hbm
    rw[hbt,fh8]at this
    rw[e1,show-((M3 h p).getD t 0-h.ts.getD t 0)=h.ts.getD t 0-(M3 h p).getD t 0 by omega]
    exact this
   ·exfalso
    have hall:∀k,k≤h.bs.length→af5 h (aw3 h p) t k=some (-100000):=by
     intro k
     induction k with
     |zero=>intro _;rfl
     |succ k ih=>
      intro hk
      have hne:(X9 h (k:Nat)).t≠(t:Int):=fun e=>hb ⟨h.bs[k],List.getElem_mem _,by rw[←e];unfold X9;simp[ff3,fg0 (show k<h.bs.length by omega)]⟩
      simp only[af5,ih (by omega),hne,if_false]
    unfold aE6 at e1
    rw[hall _ (fh0 _)]at e1
    have e4:(-100000:Int)=(M3 h p).getD t 0-h.ts.getD t 0:=e1
    omega
 ·rw[hT]
  have h1:=(hR _).1 (Int.le_refl (cl (aO7 h p)))
  refine⟨by rw[c99,←dR7];exact h1.1,fun b hbm=> ?_⟩
  obtain⟨k,hk⟩:=List.getElem?_of_mem hbm
  have hkl:k<h.bs.length:=(List.getElem?_eq_some_iff.1 hk).1
  have hbk:X9 h (k:Nat)=b:=by unfold X9;simp[ff3,hk]
  have hbb:=ch1 hv hkl
  have hbt:0≤b.t∧b.t<h.ts.length:=by rw[←hbk];exact hbb
  obtain⟨j,hj⟩:=Int.eq_ofNat_of_zero_le hbt.1
  have hjl:j<h.ts.length:=by omega
  have h2:=h1.2 j (List.mem_range.2 hjl)
  have htr:=aJ7 hv j
  rw[hj,fh8]
  rcases bl4 hv hp hjl with⟨e1,e2⟩|⟨_,_,e3⟩|⟨e1,e2,e3⟩
  ·rw[e1]at h2
   rw[e2]
   unfold cl at*
   omega
  ·exact absurd (by rw[hbk,hj]) (e3 k hkl)
  ·rw[e1,show-((M3 h p).getD j 0-h.ts.getD j 0)=h.ts.getD j 0-(M3 h p).getD j 0 by omega]at h2
   exact h2
theorem bv3 {h:A9} (hv:Valid h):∀(l:List (List (List Int))) {x y:Int},(∀p∈l,aa8 h p=true)→cl x=cl y→cl (l.foldl (fun m p=>max m (ad2 h p)) x)=cl (l.foldl (fun m p=>max m (aO7 h p)) y)
 |[],_,_,_,hxy=>hxy
 |p::l,_,_,hl,hxy=>bv3 hv l (fun q hq=>hl q (by simp[hq])) (by rw[de6,de6,hxy,ds5 hv (hl p (by simp))])
theorem bq0 {h:A9} (hv:Valid h):∀(l:List Int) {x y:Int},cl x=cl y→cl (l.foldl (fun o c=>min o (ac4 h c)) x)=cl (l.foldl (fun o c=>min o (aO8 h c)) y)
 |[],_,_,hxy=>hxy
 |c::l,_,_,hxy=>bq0 hv l (by rw[cq4,cq4,hxy];unfold ac4 aO8;rw[bv3 hv (ac1 h c) (af1 hv c) (show cl (-1)=cl (-100000)by decide)])
theorem bF0 (h:A9):∀(l:List Int) (a:Int),a≤99→l.foldl (fun o c=>min o (aO8 h c)) a≤99
 |[],_,ha=>ha
 |c::l,_,ha=>bF0 h l _ (by show min _ (aO8 h c)≤99;omega)
theorem ba5 (h:A9):aA1 h=bi4 h∧aM8 h=bi3 h:=by
 unfold aA1 bi4 aM8 bi3
 cases hb:valid h
 ·simp
 ·have hv:=ad3.1 hb
  have hc:cl (ap7 h)=cl (aB1 h):=bq0 hv (ag6 h) rfl
  have h1: -1≤ap7 h∧ap7 h≤99:=aG5 hv (ag6 h) (a:=99) (by omega)
  have h2:aB1 h≤99:=bF0 h (ag6 h) 99 (by omega)
  simp only[Bool.true_and,if_true]
  by_cases e:0≤ap7 h
  ·have h3:¬aB1 h<0:=by unfold cl at hc;omega
   have h4:ap7 h=aB1 h:=by unfold cl at hc;omega
   rw[if_neg h3,if_neg h3,if_pos e,decide_eq_true e,if_pos rfl]
   exact⟨h4,rfl⟩
  ·have h3:aB1 h<0:=by unfold cl at hc;omega
   rw[if_pos h3,if_pos h3,if_neg e,decide_eq_false e,if_neg (by decide)]
   exact⟨rfl,rfl⟩
end
section
def au2 (nt:Nat):List (List Int):=(List.range (2 ^ nt)).map af3
def ltL (a b:List Int):Bool:=decide (a.length<b.length) || (decide (a.length=b.length)&&decide (cmpL a b<0))
def ao8 (q:List Int→Bool) (a:List Int × Nat) (l:List Int):List Int × Nat:=
 if(decide (l.length<a.2) || (decide (l.length=a.2)&&decide (cmpL l a.1<0)))&&q l then(l,l.length)else a
structure Orders (nt:Nat):Prop where
 sub:∀a∈au2 nt,a∈aj4 nt
 sup:∀a∈aj4 nt,a∈au2 nt
 lt:∀a∈au2 nt,∀b∈au2 nt,ltL a b=decide ((aj4 nt).idxOf a<(aj4 nt).idxOf b)
 len:∀a∈au2 nt,a.length<nt+1
 nil:(aj4 nt).head?=some []
 full:(ad9 nt nt).getD 0 []=(List.range nt).map Int.ofNat
 last:(ad9 nt nt).getD 0 []∈au2 nt
theorem orders {nt:Nat} (h:nt≤4):Orders nt:=by
 rcases(by omega:nt=0∨nt=1∨nt=2∨nt=3∨nt=4)with rfl|rfl|rfl|rfl|rfl
 all_goals exact⟨by decide+kernel,by decide+kernel,by decide+kernel,by decide+kernel,by decide+kernel,by decide+kernel,by decide+kernel⟩
theorem bN3 {nt:Nat} (O:Orders nt) (q:List Int→Bool):∀(A seen:List (List Int)) (a:List Int × Nat),(∀l∈A,l∈au2 nt)→
 ((a=([],nt+1)∧∀l∈seen,q l=false)∨(a.2=a.1.length∧a.1∈au2 nt∧q a.1=true∧∀l∈seen,q l=true→(aj4 nt).idxOf a.1≤(aj4 nt).idxOf l))→
 ((A.foldl (ao8 q) a=([],nt+1)∧∀l∈seen++A,q l=false)∨((A.foldl (ao8 q) a).2=(A.foldl (ao8 q) a).1.length∧(A.foldl (ao8 q) a).1∈au2 nt∧q (A.foldl (ao8 q) a).1=true∧∀l∈seen++A,q l=true→(aj4 nt).idxOf (A.foldl (ao8 q) a).1≤(aj4 nt).idxOf l))
 |[],seen,a,_,h=>by simpa using h
 |x::A,seen,a,hA,h=>by
  have hx:=hA x (by simp)
  have ih:=bN3 O q A (seen++[x]) (ao8 q a x) (fun l hl=>hA l (by simp[hl])) ?_
  ·simpa using ih
  ·cases hq:q x
   ·have e:ao8 q a x=a:=by unfold ao8;rw[hq];simp
    rw[e]
    rcases h with⟨h1,h2⟩|⟨h1,h2,h3,h4⟩
    ·refine .inl ⟨h1,fun l hl=> ?_⟩
     rcases List.mem_append.1 hl with hl|hl
     ·exact h2 l hl
     ·rw[List.mem_singleton.1 hl];exact hq
    ·refine .inr ⟨h1,h2,h3,fun l hl hql=> ?_⟩
     rcases List.mem_append.1 hl with hl|hl
     ·exact h4 l hl hql
     ·rw[List.mem_singleton.1 hl,hq]at hql;cases hql
   ·rcases h with⟨h1,h2⟩|⟨h1,h2,h3,h4⟩
    ·subst h1
     have e:ao8 q ([],nt+1) x=(x,x.length):=by
      unfold ao8
      rw[hq,show decide (x.length<nt+1)=true from decide_eq_true (O.len x hx)]
      simp
     rw[e]
     refine .inr ⟨rfl,hx,hq,fun l hl hql=> ?_⟩
     rcases List.mem_append.1 hl with hl|hl
     ·rw[h2 l hl]at hql;cases hql
     ·rw[List.mem_singleton.1 hl];exact fh0 _
    ·have hlt:=O.lt x hx a.1 h2
     cases hc:ltL x a.1
     ·have e:ao8 q a x=a:=by
       unfold ao8
       unfold ltL at hc
       rw[h1,hc];simp
      rw[e]
      rw[hc]at hlt
      refine .inr ⟨h1,h2,h3,fun l hl hql=> ?_⟩
      rcases List.mem_append.1 hl with hl|hl
      ·exact h4 l hl hql
      ·rw[List.mem_singleton.1 hl];have:=of_decide_eq_false hlt.symm;omega
     ·have e:ao8 q a x=(x,x.length):=by
       unfold ao8
       unfold ltL at hc
       rw[h1,hc,hq];simp
      rw[e]
      rw[hc]at hlt
      have hle:=of_decide_eq_true hlt.symm
      refine .inr ⟨rfl,hx,hq,fun l hl hql=> ?_⟩
      rcases List.mem_append.1 hl with hl|hl
      ·have:=h4 l hl hql;show(aj4 nt).idxOf x≤_;omega
      ·rw[List.mem_singleton.1 hl];exact fh0 _
theorem cG8 {nt:Nat} (h4:nt≤4) (q:List Int→Bool) (hf:q ((ad9 nt nt).getD 0 [])=true):
 ((au2 nt).foldl (ao8 q) ([],nt+1)).1=(((List.range nt).flatMap fun many=>ad9 many nt).find? q).getD ((ad9 nt nt).getD 0 [])∧
 (((((List.range nt).flatMap fun many=>ad9 many nt).find? q).getD ((ad9 nt nt).getD 0 [])).length=0↔q []=true):=by
 have O:=orders h4
 have hr:(aj4 nt).find? q=some ((((List.range nt).flatMap fun many=>ad9 many nt).find? q).getD ((ad9 nt nt).getD 0 [])):=by
  unfold aj4
  rw[List.find?_append]
  cases ((List.range nt).flatMap fun many=>ad9 many nt).find? q with
  |none=>
   show [(ad9 nt nt).getD 0 []].find? q=some ((ad9 nt nt).getD 0 [])
   rw[List.find?_cons_of_pos hf]
  |some x=>rfl
 generalize(((List.range nt).flatMap fun many=>ad9 many nt).find? q).getD ((ad9 nt nt).getD 0 [])=r at hr
 obtain⟨hq,hm,hlt⟩:=cx4 hr
 constructor
 ·rcases bN3 O q (au2 nt) [] ([],nt+1) (fun _ h=>h) (.inl ⟨rfl,by simp⟩)with⟨_,h2⟩|⟨_,h2,h3,h5⟩
  ·have:=h2 _ (List.mem_append_right [] O.last);rw[hf]at this;cases this
  ·have h6:=h5 r (by simpa using O.sup r hm) hq
   have h7:¬(aj4 nt).idxOf ((au2 nt).foldl (ao8 q) ([],nt+1)).1<(aj4 nt).idxOf r:=fun hl=>by
    have:=hlt _ (O.sub _ h2) hl
    rw[h3]at this;cases this
   have h8:(aj4 nt).idxOf ((au2 nt).foldl (ao8 q) ([],nt+1)).1=(aj4 nt).idxOf r:=by omega
   have g1:=List.getElem_idxOf (xs:=aj4 nt) (List.idxOf_lt_length_of_mem (O.sub _ h2))
   have g2:=List.getElem_idxOf (xs:=aj4 nt) (List.idxOf_lt_length_of_mem hm)
   rw[←g1,←g2]
   simp only[h8]
 ·constructor
  ·intro h0
   rw[List.length_eq_zero_iff.1 h0]at hq
   exact hq
  ·intro h0
   have hh:=O.nil
   cases hb:aj4 nt with
   |nil=>rw[hb]at hh;cases hh
   |cons a B=>
    rw[hb]at hh hr
    simp at hh
    subst hh
    rw[List.find?_cons_of_pos h0]at hr
    cases hr
    rfl
theorem cQ0 (h:A9) (n:Nat):(List.range n).foldl (aH5 h) ([],h.ts.length+1)=((List.range n).map af3).foldl (ao8 (ar0 h)) ([],h.ts.length+1):=by
 rw[List.foldl_map]
 rfl
theorem cq5 (h:A9):aT6 h=ch2 h:=by
 unfold aT6 ch2
 cases hv:valid h
 ·rfl
 ·have hV:=ad3.1 hv
  simp only[if_true]
  unfold ai0
  rw[cQ0]
  have:=(cG8 hV.t4 (ar0 h) (bY9 hV)).1
  unfold au2 at this
  rw[this]
  unfold toldOf
  rw[show br9 h=ar0 h from funext (bs0 h)]
theorem ds7 (h:A9):aT7 h=cM3 h:=by
 unfold aT7 cM3
 cases hv:valid h
 ·rfl
 ·have hV:=ad3.1 hv
  have:=(cG8 hV.t4 (ar0 h) (bY9 hV)).2
  unfold toldOf
  rw[show br9 h=ar0 h from funext (bs0 h)]
  rw[Bool.true_and]
  cases hs:ar0 h []
  ·rw[hs]at this
   simp at this
   simp[this]
  ·rw[hs]at this
   simp at this
   simp[this]
end
section
open Go.RowKit
attribute [local go_sem] j4.drew j4.alloc j4.drewN WB.holds
theorem cA7 {h:A9} (hv:Valid h):0≤am2 h∧am2 h≤h.ts.length:=by
 unfold am2
 rw[ad3.2 hv,if_pos rfl]
 have:=bG9 h (Q3 h (-1))
 omega
end
section
open Go.RowKit
def au3 (w0:World) (H0 H:j5) (O:Nat) (t:D5) (w:ByteArray) (a:List Int) (e:Ending) (w':World):Prop:=
 (∃o vm vb vt um uo ua H',M5 t w a=some o∧e= .returned (.bool true)∧aA5 w0 H0 O w' H' vm vb vt um uo ua o∧D8 H H')∨(M5 t w a=none∧e= .returned (.bool false)∧∃H',Ext w0 H0 w' H'∧D8 H H')
def cq6 (H:j5) (fv:Value) (w:ByteArray) (a:List Int):Prop:=
 ∃f cap,fv= .func (.func f) #[] cap∧(∀args W,(callFunc f args).run Tryz.prog W= .ok (.enter f args) W)∧
  ∀H1,D8 H H1→∀(w0 W:World) (H0:j5) (O:Nat) (vm vb vt um uo ua:Value) (t:D5),aA5 w0 H0 O W H1 vm vb vt um uo ua t→F6 t=true→
   Calls Tryz.prog f (#[.pointer (some ⟨O,0,none⟩)]++cap) W (au3 w0 H0 H1 O t w a)
theorem cq6.mono {H H':j5} (k:D8 H H') {fv:Value} {w:ByteArray} {a:List Int} (h:cq6 H fv w a):cq6 H' fv w a:=by
 obtain⟨f,cap,e,h1,h2⟩:=h
 exact⟨f,cap,e,h1,fun H1 hle=>h2 H1 (k.trans hle)⟩
structure Cap (H:j5) (A:Nat) (a:List Int):Prop where
 h:∃va,H A=some (.cells #[va] 24 (0,0))∧Sl H va a
theorem Cap.mono {H H':j5} (k:D8 H H') {A:Nat} {a:List Int} (h:Cap H A a):Cap H' A a:=let ⟨va,h1,h2⟩:=h.h;⟨va,k _ _ h1,h2.mono k⟩
theorem Cap.one {H:j5} {A:Nat} {x:Int} (h:Cap H A [x]):K8 x∧∃b o c,(∀W,j4 H W→W.cell? ⟨A,0,none⟩=some (.slice (some ⟨b,o,none⟩) 1 c))∧(∀W,j4 H W→W.cell? ⟨b,o,none⟩=some (.int .i64 x)):=by
 obtain⟨va,h1,h2⟩:=h.h
 obtain⟨b,o,c,rfl,hi,r0⟩:=h2.int (show At [x] 0 x from rfl)
 exact⟨hi,b,o,c,fun W hW=>D7 h1 hW 0,r0⟩
theorem Cap.two {H:j5} {A:Nat} {x y:Int} (h:Cap H A [x,y]):(K8 x∧K8 y)∧∃b o c,(∀W,j4 H W→W.cell? ⟨A,0,none⟩=some (.slice (some ⟨b,o,none⟩) 2 c))∧(∀W,j4 H W→W.cell? ⟨b,o,none⟩=some (.int .i64 x))∧(∀W,j4 H W→W.cell? ⟨b,o+1,none⟩=some (.int .i64 y)):=by
 obtain⟨va,h1,h2⟩:=h.h
 obtain⟨b,o,c,rfl,hi,r0⟩:=h2.int (show At [x,y] 0 x from rfl)
 obtain⟨b',o',c',he,hj,r1⟩:=h2.int (show At [x,y] 1 y from rfl)
 cases he
 exact⟨⟨hi,hj⟩,b,o,c,fun W hW=>D7 h1 hW 0,r0,r1⟩
theorem Cap.three {H:j5} {A:Nat} {x y z:Int} (h:Cap H A [x,y,z]):(K8 x∧K8 y∧K8 z)∧∃b o c,(∀W,j4 H W→W.cell? ⟨A,0,none⟩=some (.slice (some ⟨b,o,none⟩) 3 c))∧(∀W,j4 H W→W.cell? ⟨b,o,none⟩=some (.int .i64 x))∧
 (∀W,j4 H W→W.cell? ⟨b,o+1,none⟩=some (.int .i64 y))∧(∀W,j4 H W→W.cell? ⟨b,o+2,none⟩=some (.int .i64 z)):=by
 obtain⟨va,h1,h2⟩:=h.h
 obtain⟨b,o,c,rfl,hi,r0⟩:=h2.int (show At [x,y,z] 0 x from rfl)
 obtain⟨b',o',c',he,hj,r1⟩:=h2.int (show At [x,y,z] 1 y from rfl)
 cases he
 obtain⟨b',o',c',he,hk,r2⟩:=h2.int (show At [x,y,z] 2 z from rfl)
 cases he
 exact⟨⟨hi,hj,hk⟩,b,o,c,fun W hW=>D7 h1 hW 0,r0,r1,r2⟩
theorem aj9 {t:D5}:F6 t=true↔Valid t.h∧Y0 t.s:=by
 unfold F6
 rw[fh9,ad3,aj5]
end
section
open Go.RowKit
attribute [local go_sem] j4.drew j4.alloc j4.drewN WB.holds Oper.semAt_some Q9 O1 J7
theorem bV7 {w0 w:World} {H0 H:j5} {O A:Nat} {vm vb vt um uo ua:Value} {t:D5} {x y z:Int} (r:aA5 w0 H0 O w H vm vb vt um uo ua t) (v:F6 t=true) (hA:Cap H A [x,y,z]):
 Calls Tryz.prog 150 #[.pointer (some ⟨O,0,none⟩),.pointer (some ⟨A,0,none⟩)] w (au3 w0 H0 H O t R7 [x,y,z]):=by
 obtain⟨⟨i0,i1,i2⟩,b,o,c,a0,a1,a2,a3⟩:=hA.three
 have hw:=r.c.x.holds
 have hbd:=(aj9.1 v).1.m3
 have hmore:=fun(W:World) (c1:J4 w0 H0 O 32 W H #[vm,vb,vt,.int .i64 t.h.ch,um,uo,ua,.int .i64 t.s.fr])=>da4 c1 (k:=0) rfl r.t.h.m ⟨x,y,z⟩ ⟨i0,i1,i2⟩ (by omega)
 replace hmore:=fe6 hmore
 have hr:=fe6 r
 clear i0 i1 i2 hbd v
 go_enter Tryz.func150,Tryz.ntmps150
 go_upto_region 1 with fail
 refine(wpIn_wide (n:=3)).1 ?_
 show Code.wpIn (FW none) 3 _ _ _ _ _
 have hnq:Nonempty (WB H w):=⟨⟨w,hw,Below.refl _ _⟩⟩
 refine X0 (C:=fun w'=>∃x:WB H w,w'=x.w) 14 (by kernel_rfl) (by kernel_rfl) (by kernel_rfl) ⟨⟨World.drew w,j4.drew hw,(Below.refl _ _).drew⟩,rfl⟩ ?_
 simp only[List.take_succ_cons,List.take_zero,ff5,ff6]
 repeat go_big_quiet_step((first|fail))
 refine wpQuiet_nil ?_
 clear hnq
 rintro w2 ⟨⟨_,hw2,hb2⟩,rfl⟩
 have c2:=hr.out.c.below hb2
 gi_wp2_with (gi_at_call 151;refine(Calls.wide (hmore.out _ c2)).mono ?_;rintro e w3 ⟨rfl,v',H',c3,I9,s3⟩)
 go_wp2_with fail
 go_ret
 exact .inl ⟨_,v',vb,vt,um,uo,ua,H',rfl,rfl,⟨c3,⟨⟨s3,hr.out.t.h.b.mono I9,hr.out.t.h.t.mono I9,hr.out.t.h.c⟩,⟨hr.out.t.s.m.mono I9,hr.out.t.s.o.mono I9,hr.out.t.s.a.mono I9,hr.out.t.s.f⟩⟩⟩,I9⟩
theorem cg1 {w0 w:World} {H0 H:j5} {O A:Nat} {vm vb vt um uo ua:Value} {t:D5} {x y z:Int} (r:aA5 w0 H0 O w H vm vb vt um uo ua t) (v:F6 t=true) (hA:Cap H A [x,y,z]):
 Calls Tryz.prog 158 #[.pointer (some ⟨O,0,none⟩),.pointer (some ⟨A,0,none⟩)] w (au3 w0 H0 H O t Z0 [x,y,z]):=by
 obtain⟨⟨i0,i1,i2⟩,b,o,c,a0,a1,a2,a3⟩:=hA.three
 have hw:=r.c.x.holds
 have hbd:=(aj9.1 v).1.b5
 have hmore:=fun(W:World) (c1:J4 w0 H0 O 32 W H #[vm,vb,vt,.int .i64 t.h.ch,um,uo,ua,.int .i64 t.s.fr])=>da5 c1 (k:=1) rfl r.t.h.b ⟨x,y,z⟩ ⟨i0,i1,i2⟩ (by omega)
 replace hmore:=fe6 hmore
 have hr:=fe6 r
 clear i0 i1 i2 hbd v
 go_enter Tryz.func158,Tryz.ntmps158
 go_upto_region 1 with fail
 refine(wpIn_wide (n:=3)).1 ?_
 show Code.wpIn (FW none) 3 _ _ _ _ _
 have hnq:Nonempty (WB H w):=⟨⟨w,hw,Below.refl _ _⟩⟩
 refine X0 (C:=fun w'=>∃x:WB H w,w'=x.w) 14 (by kernel_rfl) (by kernel_rfl) (by kernel_rfl) ⟨⟨World.drew w,j4.drew hw,(Below.refl _ _).drew⟩,rfl⟩ ?_
 simp only[List.take_succ_cons,List.take_zero,ff5,ff6]
 repeat go_big_quiet_step((first|fail))
 refine wpQuiet_nil ?_
 clear hnq
 rintro w2 ⟨⟨_,hw2,hb2⟩,rfl⟩
 have c2:=hr.out.c.below hb2
 gi_wp2_with (gi_at_call 159;refine(Calls.wide (hmore.out _ c2)).mono ?_;rintro e w3 ⟨rfl,v',H',c3,I9,s3⟩)
 go_wp2_with fail
 go_ret
 exact .inl ⟨_,vm,v',vt,um,uo,ua,H',rfl,rfl,⟨c3,⟨⟨hr.out.t.h.m.mono I9,s3,hr.out.t.h.t.mono I9,hr.out.t.h.c⟩,⟨hr.out.t.s.m.mono I9,hr.out.t.s.o.mono I9,hr.out.t.s.a.mono I9,hr.out.t.s.f⟩⟩⟩,I9⟩
theorem cq7 {w0 w:World} {H0 H:j5} {O A:Nat} {vm vb vt um uo ua:Value} {t:D5} {x:Int} (r:aA5 w0 H0 O w H vm vb vt um uo ua t) (v:F6 t=true) (hA:Cap H A [x]):
 Calls Tryz.prog 154 #[.pointer (some ⟨O,0,none⟩),.pointer (some ⟨A,0,none⟩)] w (au3 w0 H0 H O t ac6 [x]):=by
 obtain⟨i0,b,o,c,a0,a1⟩:=hA.one
 have hw:=r.c.x.holds
 have hbd:=(aj9.1 v).1.t4
 have hmore:=fun(W:World) (c1:J4 w0 H0 O 32 W H #[vm,vb,vt,.int .i64 t.h.ch,um,uo,ua,.int .i64 t.s.fr])=>da6 c1 (k:=2) rfl r.t.h.t x i0 (by omega)
 replace hmore:=fe6 hmore
 have hr:=fe6 r
 clear i0 hbd v
 go_enter Tryz.func154,Tryz.ntmps154
 go_upto_region 1 with fail
 refine(wpIn_wide (n:=3)).1 ?_
 show Code.wpIn (FW none) 3 _ _ _ _ _
 have hnq:Nonempty (WB H w):=⟨⟨w,hw,Below.refl _ _⟩⟩
 refine X0 (C:=fun w'=>∃x:WB H w,w'=x.w) 7 (by kernel_rfl) (by kernel_rfl) (by kernel_rfl) ⟨⟨World.drew w,j4.drew hw,(Below.refl _ _).drew⟩,rfl⟩ ?_
 simp only[List.take_succ_cons,List.take_zero,ff5,ff6]
 repeat go_big_quiet_step((first|fail))
 refine wpQuiet_nil ?_
 clear hnq
 rintro w2 ⟨⟨_,hw2,hb2⟩,rfl⟩
 have c2:=hr.out.c.below hb2
 gi_wp2_with (gi_at_call 155;refine(Calls.wide (hmore.out _ c2)).mono ?_;rintro e w3 ⟨rfl,v',H',c3,I9,s3⟩)
 go_wp2_with fail
 go_ret
 exact .inl ⟨_,vm,vb,v',um,uo,ua,H',rfl,rfl,⟨c3,⟨⟨hr.out.t.h.m.mono I9,hr.out.t.h.b.mono I9,s3,hr.out.t.h.c⟩,⟨hr.out.t.s.m.mono I9,hr.out.t.s.o.mono I9,hr.out.t.s.a.mono I9,hr.out.t.s.f⟩⟩⟩,I9⟩
theorem cQ1 {w0 w:World} {H0 H:j5} {O A:Nat} {vm vb vt um uo ua:Value} {t:D5} {x:Int} (r:aA5 w0 H0 O w H vm vb vt um uo ua t) (hA:Cap H A [x]):
 Calls Tryz.prog 160 #[.pointer (some ⟨O,0,none⟩),.pointer (some ⟨A,0,none⟩)] w (au3 w0 H0 H O t ar9 [x]):=by
 obtain⟨i0,b,o,c,a0,a1⟩:=hA.one
 have hw:=r.c.x.holds
 have g0:=r.c.cell 3
 have g1:=r.c.fz 3
 simp at g0
 have c3:=r.c.set 3 (.int .i64 x)
 replace c3:=fe6 c3
 have hr:=fe6 r
 replace i0:=fe6 i0
 go_enter Tryz.func160,Tryz.ntmps160
 go_wp2
 go_ret
 exact .inl ⟨_,vm,vb,vt,um,uo,ua,H,rfl,rfl,⟨c3.out,⟨⟨hr.out.t.h.m,hr.out.t.h.b,hr.out.t.h.t,i0.out⟩,hr.out.t.s⟩⟩,D8.refl H⟩
end
section
open Go.RowKit
attribute [local go_sem] j4.drew j4.alloc j4.drewN WB.holds Oper.semAt_some Q9 O1 J7
theorem bg3 {α:Type} {l:List α} {i:Int}:inL l i=true↔0≤i∧i<(l.length:Int):=by unfold inL;simp
theorem J4.other {w0 w:World} {H0 H:j5} {O:Nat} {T:TypeId} {cur:Array Value} (c:J4 w0 H0 O T w H cur) {g:Nat} (i:Nat) (u:Value) (hg:g≠O) (hb:w0.heap.size≤g) (hH:H g=none):J4 w0 H0 O T (w.setCell ⟨g,i,none⟩ u) H cur:=
 ⟨c.x.setCell (a:=⟨g,i,none⟩) hb hH u,(heap_setCell_other w ⟨g,i,none⟩ O u (Ne.symm hg)).trans c.at_,c.ob,c.oH⟩
theorem aG6 (x:Int) (l:List Int):nth (x::l) 0=x:=rfl
theorem cQ2 (x y:Int) (l:List Int):nth (x::y::l) 1=y:=rfl
theorem cq8 {w0 w:World} {H0 H:j5} {O A:Nat} {vm vb vt um uo ua:Value} {t:D5} {x y:Int} (r:aA5 w0 H0 O w H vm vb vt um uo ua t) (v:F6 t=true) (hA:Cap H A [x,y]):
 Calls Tryz.prog 152 #[.pointer (some ⟨O,0,none⟩),.pointer (some ⟨A,0,none⟩)] w (au3 w0 H0 H O t Y6 [x,y]):=by
 obtain⟨⟨i0,i1⟩,b,o,c,a0,a1,a2⟩:=hA.two
 have hw:=r.c.x.holds
 have hbd:=(aj9.1 v).1.m3
 cases hin:inL t.h.ms x
 ·have hch:M5 t Y6 [x,y]=none:=by unfold M5;simp only[aG6,show ¬Y6=R7 by decide,hin,if_true,if_false,Bool.false_eq_true]
  have hat:=fun(W:World) (hW:j4 H W) (c1:J4 w0 H0 O 32 W H #[vm,vb,vt,.int .i64 t.h.ch,um,uo,ua,.int .i64 t.s.fr])=>dN7 (c1.cell 0) r.t.h.m x hin
  replace hat:=fe6 hat
  replace hch:=fe6 hch
  have hr:=fe6 r
  clear i0 i1 hbd v hin
  go_enter Tryz.func152,Tryz.ntmps152
  go_upto_region 1 with fail
  go_region_held3 (fun w'=>j4 H w') (first|assumption|exact j4.drew ‹_›|exact j4.alloc ‹_› _|exact j4.drew (j4.alloc ‹_› _)) (first|((go_at_call 153;refine(hat.out _ hw.drew hr.out.c.drew).mono ?_;rintro e w3 ⟨rfl,hb3⟩;have k1:j4 H w3:=hw.drew.below hb3)))
  go_wp2_with fail
  go_ret
  have c2:=hr.out.c.drew
  exact .inr ⟨hch.out,rfl,H,(c2.below hb3).x,D8.refl H⟩
 ·obtain⟨h0,h1⟩:=bg3.1 hin
  obtain⟨j,rfl⟩:∃j:Nat,x=(j:Int):=⟨x.toNat,by omega⟩
  have hj:j<t.h.ms.length:=by omega
  have hch:M5 t Y6 [(j:Int),y]=some {t with h:={t.h with ms:=t.h.ms.set j {t.h.ms.getD j default with s:=y}}}:=by unfold M5;simp only[aG6,cQ2,fh8,show ¬Y6=R7 by decide,hin,if_true,if_false]
  have hat:=fun(W:World) (c1:J4 w0 H0 O 32 W H #[vm,vb,vt,.int .i64 t.h.ch,um,uo,ua,.int .i64 t.s.fr])=>dG9 c1 (k:=0) rfl r.t.h.m (by omega) j hj
  replace hat:=fe6 hat
  replace hch:=fe6 hch
  have hr:=fe6 r
  replace i1:=fe6 i1
  clear i0 hbd v hin h0 h1
  obtain⟨m,hm⟩:=At.mk hj
  go_enter Tryz.func152,Tryz.ntmps152
  go_upto_region 1 with fail
  go_region_held3 (fun w'=>j4 H w') (first|assumption|exact j4.drew ‹_›|exact j4.alloc ‹_› _|exact j4.drew (j4.alloc ‹_› _)) (first|((go_at_call 153;refine(hat.out _ hr.out.c.drew).mono ?_;rintro e w3 ⟨g,cg,H',rfl,c3,I9,o3⟩;have k1:j4 H w3:=c3.x.holds.mono I9)))
  have c2:=hr.out.c.drew
  obtain⟨ds,hd,hbg,hHg,hgl,hcs,hfz⟩:=o3.as9 hm
  have hw3:=c3.x.holds
  have a0':=lift I9 a0
  have a2':=lift I9 a2
  have hO:O<w.heap.size:=c2.lt
  have hsz:w0.heap.size≤w.heap.size:=c2.x.below.size
  replace hbg:w.heap.size≤g:=hbg
  have hob:=c2.ob
  obtain⟨rfl,k0,k1,k2⟩:=hd
  have q0:w3.cell? ⟨g,j*3+2,none⟩=some (.int .i64 m.s):=hcs 2 _ rfl
  have q1:=hfz (j*3+2)
  have o4:=o3.aV3 (y:={t.h.ms.getD j default with s:=y}) (u:= .int .i64 y) hm (j:=2) (by decide) (fun ds hds=>by
   obtain⟨rfl,_,_,_⟩:=hds
   rw[hm.getD]
   exact⟨rfl,k0,k1,i1.out⟩)
  have c4:=c3.other (g:=g) (j*3+2) (.int .i64 y) (by omega) (by omega) hHg
  obtain⟨H5,c5,le5,s5⟩:=c4.close o4 hsz (fun e=>by simp[Value.ownBlock]at e;omega)
  replace c5:=fe6 c5
  replace I9:=fe6 I9
  replace le5:=fe6 le5
  replace s5:=fe6 s5
  clear o3 o4 c4 hbg hHg hgl hO hsz hob hcs
  go_wp2
  go_ret
  exact .inl ⟨_,.slice (some ⟨g,0,none⟩) t.h.ms.length cg,vb,vt,um,uo,ua,H5,hch.out,rfl,⟨c5.out,⟨⟨s5.out,hr.out.t.h.b.mono (I9.out.trans le5.out),hr.out.t.h.t.mono (I9.out.trans le5.out),hr.out.t.h.c⟩,⟨hr.out.t.s.m.mono (I9.out.trans le5.out),hr.out.t.s.o.mono (I9.out.trans le5.out),hr.out.t.s.a.mono (I9.out.trans le5.out),hr.out.t.s.f⟩⟩⟩,I9.out.trans le5.out⟩
theorem cg2 {w0 w:World} {H0 H:j5} {O A:Nat} {vm vb vt um uo ua:Value} {t:D5} {x y:Int} (r:aA5 w0 H0 O w H vm vb vt um uo ua t) (v:F6 t=true) (hA:Cap H A [x,y]):
 Calls Tryz.prog 156 #[.pointer (some ⟨O,0,none⟩),.pointer (some ⟨A,0,none⟩)] w (au3 w0 H0 H O t Q8 [x,y]):=by
 obtain⟨⟨i0,i1⟩,b,o,c,a0,a1,a2⟩:=hA.two
 have hw:=r.c.x.holds
 have hbd:=(aj9.1 v).1.t4
 cases hin:inL t.h.ts x
 ·have hch:M5 t Q8 [x,y]=none:=by unfold M5;simp only[aG6,show ¬Q8=R7 by decide,show ¬Q8=Y6 by decide,show ¬Q8=ac6 by decide,hin,if_true,if_false,Bool.false_eq_true]
  have hat:=fun(W:World) (hW:j4 H W) (c1:J4 w0 H0 O 32 W H #[vm,vb,vt,.int .i64 t.h.ch,um,uo,ua,.int .i64 t.s.fr])=>da2 (c1.cell 2) r.t.h.t x hin
  replace hat:=fe6 hat
  replace hch:=fe6 hch
  have hr:=fe6 r
  clear i0 i1 hbd v hin
  go_enter Tryz.func156,Tryz.ntmps156
  go_upto_region 1 with fail
  go_region_held3 (fun w'=>j4 H w') (first|assumption|exact j4.drew ‹_›|exact j4.alloc ‹_› _|exact j4.drew (j4.alloc ‹_› _)) (first|((go_at_call 157;refine(hat.out _ hw.drew hr.out.c.drew).mono ?_;rintro e w3 ⟨rfl,hb3⟩;have k1:j4 H w3:=hw.drew.below hb3)))
  go_wp2_with fail
  go_ret
  have c2:=hr.out.c.drew
  exact .inr ⟨hch.out,rfl,H,(c2.below hb3).x,D8.refl H⟩
 ·obtain⟨h0,h1⟩:=bg3.1 hin
  obtain⟨j,rfl⟩:∃j:Nat,x=(j:Int):=⟨x.toNat,by omega⟩
  have hj:j<t.h.ts.length:=by omega
  have hch:M5 t Q8 [(j:Int),y]=some {t with h:={t.h with ts:=t.h.ts.set j y}}:=by unfold M5;simp only[aG6,cQ2,fh8,show ¬Q8=R7 by decide,show ¬Q8=Y6 by decide,show ¬Q8=ac6 by decide,hin,if_true,if_false]
  have hat:=fun(W:World) (c1:J4 w0 H0 O 32 W H #[vm,vb,vt,.int .i64 t.h.ch,um,uo,ua,.int .i64 t.s.fr])=>cF2 c1 (k:=2) rfl r.t.h.t (by omega) j hj
  replace hat:=fe6 hat
  replace hch:=fe6 hch
  have hr:=fe6 r
  replace i1:=fe6 i1
  clear i0 hbd v hin h0 h1
  obtain⟨m,hm⟩:=At.mk hj
  go_enter Tryz.func156,Tryz.ntmps156
  go_upto_region 1 with fail
  go_region_held3 (fun w'=>j4 H w') (first|assumption|exact j4.drew ‹_›|exact j4.alloc ‹_› _|exact j4.drew (j4.alloc ‹_› _)) (first|((go_at_call 157;refine(hat.out _ hr.out.c.drew).mono ?_;rintro e w3 ⟨g,cg,H',rfl,c3,I9,o3⟩;have k1:j4 H w3:=c3.x.holds.mono I9)))
  have c2:=hr.out.c.drew
  obtain⟨ds,hd,hbg,hHg,hgl,hcs,hfz⟩:=o3.as9 hm
  have hw3:=c3.x.holds
  have a0':=lift I9 a0
  have a2':=lift I9 a2
  have hO:O<w.heap.size:=c2.lt
  have hsz:w0.heap.size≤w.heap.size:=c2.x.below.size
  replace hbg:w.heap.size≤g:=hbg
  have hob:=c2.ob
  obtain⟨rfl,k0⟩:=hd
  have q0:w3.cell? ⟨g,j,none⟩=some (.int .i64 m):=by have:=hcs 0 _ rfl;simpa [Enc.sz]using this
  have q1:=hfz j
  have o4:=o3.aV3 (y:=y) (u:= .int .i64 y) hm (j:=0) (by decide) (fun ds hds=>by
   obtain⟨rfl,_⟩:=hds
   exact⟨rfl,i1.out⟩)
  rw[show j*Enc.sz Int+0=j from Nat.mul_one j]at o4
  have c4:=c3.other (g:=g) (j) (.int .i64 y) (by omega) (by omega) hHg
  obtain⟨H5,c5,le5,s5⟩:=c4.close o4 hsz (fun e=>by simp[Value.ownBlock]at e;omega)
  replace c5:=fe6 c5
  replace I9:=fe6 I9
  replace le5:=fe6 le5
  replace s5:=fe6 s5
  clear o3 o4 c4 hbg hHg hgl hO hsz hob hcs
  go_wp2
  go_ret
  exact .inl ⟨_,vm,vb,.slice (some ⟨g,0,none⟩) t.h.ts.length cg,um,uo,ua,H5,hch.out,rfl,⟨c5.out,⟨⟨hr.out.t.h.m.mono (I9.out.trans le5.out),hr.out.t.h.b.mono (I9.out.trans le5.out),s5.out,hr.out.t.h.c⟩,⟨hr.out.t.s.m.mono (I9.out.trans le5.out),hr.out.t.s.o.mono (I9.out.trans le5.out),hr.out.t.s.a.mono (I9.out.trans le5.out),hr.out.t.s.f⟩⟩⟩,I9.out.trans le5.out⟩
theorem cA8 {w0 w:World} {H0 H:j5} {O A:Nat} {vm vb vt um uo ua:Value} {t:D5} {x y:Int} (r:aA5 w0 H0 O w H vm vb vt um uo ua t) (v:F6 t=true) (hA:Cap H A [x,y]):
 Calls Tryz.prog 163 #[.pointer (some ⟨O,0,none⟩),.pointer (some ⟨A,0,none⟩)] w (au3 w0 H0 H O t Y2 [x,y]):=by
 obtain⟨⟨i0,i1⟩,b,o,c,a0,a1,a2⟩:=hA.two
 have hw:=r.c.x.holds
 have hbd:=(aj9.1 v).2.w3
 cases hin:inL t.s.wa x
 ·have hch:M5 t Y2 [x,y]=none:=by unfold M5;simp only[aG6,show ¬Y2=R7 by decide,show ¬Y2=Y6 by decide,show ¬Y2=ac6 by decide,show ¬Y2=Q8 by decide,show ¬Y2=Z0 by decide,show ¬Y2=ar9 by decide,show ¬Y2=R8 by decide,show ¬Y2=O6 by decide,hin,if_true,if_false,Bool.false_eq_true]
  have hat:=fun(W:World) (hW:j4 H W) (c1:J4 w0 H0 O 32 W H #[vm,vb,vt,.int .i64 t.h.ch,um,uo,ua,.int .i64 t.s.fr])=>da2 (c1.cell 6) r.t.s.a x hin
  replace hat:=fe6 hat
  replace hch:=fe6 hch
  have hr:=fe6 r
  clear i0 i1 hbd v hin
  go_enter Tryz.func163,Tryz.ntmps163
  go_upto_region 1 with fail
  go_region_held3 (fun w'=>j4 H w') (first|assumption|exact j4.drew ‹_›|exact j4.alloc ‹_› _|exact j4.drew (j4.alloc ‹_› _)) (first|((go_at_call 157;refine(hat.out _ hw.drew hr.out.c.drew).mono ?_;rintro e w3 ⟨rfl,hb3⟩;have k1:j4 H w3:=hw.drew.below hb3)))
  go_wp2_with fail
  go_ret
  have c2:=hr.out.c.drew
  exact .inr ⟨hch.out,rfl,H,(c2.below hb3).x,D8.refl H⟩
 ·obtain⟨h0,h1⟩:=bg3.1 hin
  obtain⟨j,rfl⟩:∃j:Nat,x=(j:Int):=⟨x.toNat,by omega⟩
  have hj:j<t.s.wa.length:=by omega
  have hch:M5 t Y2 [(j:Int),y]=some {t with s:={t.s with wa:=t.s.wa.set j y}}:=by unfold M5;simp only[aG6,cQ2,fh8,show ¬Y2=R7 by decide,show ¬Y2=Y6 by decide,show ¬Y2=ac6 by decide,show ¬Y2=Q8 by decide,show ¬Y2=Z0 by decide,show ¬Y2=ar9 by decide,show ¬Y2=R8 by decide,show ¬Y2=O6 by decide,hin,if_true,if_false]
  have hat:=fun(W:World) (c1:J4 w0 H0 O 32 W H #[vm,vb,vt,.int .i64 t.h.ch,um,uo,ua,.int .i64 t.s.fr])=>cF2 c1 (k:=6) rfl r.t.s.a (by omega) j hj
  replace hat:=fe6 hat
  replace hch:=fe6 hch
  have hr:=fe6 r
  replace i1:=fe6 i1
  clear i0 hbd v hin h0 h1
  obtain⟨m,hm⟩:=At.mk hj
  go_enter Tryz.func163,Tryz.ntmps163
  go_upto_region 1 with fail
  go_region_held3 (fun w'=>j4 H w') (first|assumption|exact j4.drew ‹_›|exact j4.alloc ‹_› _|exact j4.drew (j4.alloc ‹_› _)) (first|((go_at_call 157;refine(hat.out _ hr.out.c.drew).mono ?_;rintro e w3 ⟨g,cg,H',rfl,c3,I9,o3⟩;have k1:j4 H w3:=c3.x.holds.mono I9)))
  have c2:=hr.out.c.drew
  obtain⟨ds,hd,hbg,hHg,hgl,hcs,hfz⟩:=o3.as9 hm
  have hw3:=c3.x.holds
  have a0':=lift I9 a0
  have a2':=lift I9 a2
  have hO:O<w.heap.size:=c2.lt
  have hsz:w0.heap.size≤w.heap.size:=c2.x.below.size
  replace hbg:w.heap.size≤g:=hbg
  have hob:=c2.ob
  obtain⟨rfl,k0⟩:=hd
  have q0:w3.cell? ⟨g,j,none⟩=some (.int .i64 m):=by have:=hcs 0 _ rfl;simpa [Enc.sz]using this
  have q1:=hfz j
  have o4:=o3.aV3 (y:=y) (u:= .int .i64 y) hm (j:=0) (by decide) (fun ds hds=>by
   obtain⟨rfl,_⟩:=hds
   exact⟨rfl,i1.out⟩)
  rw[show j*Enc.sz Int+0=j from Nat.mul_one j]at o4
  have c4:=c3.other (g:=g) (j) (.int .i64 y) (by omega) (by omega) hHg
  obtain⟨H5,c5,le5,s5⟩:=c4.close o4 hsz (fun e=>by simp[Value.ownBlock]at e;omega)
  replace c5:=fe6 c5
  replace I9:=fe6 I9
  replace le5:=fe6 le5
  replace s5:=fe6 s5
  clear o3 o4 c4 hbg hHg hgl hO hsz hob hcs
  go_wp2
  go_ret
  exact .inl ⟨_,vm,vb,vt,um,uo,.slice (some ⟨g,0,none⟩) t.s.wa.length cg,H5,hch.out,rfl,⟨c5.out,⟨⟨hr.out.t.h.m.mono (I9.out.trans le5.out),hr.out.t.h.b.mono (I9.out.trans le5.out),hr.out.t.h.t.mono (I9.out.trans le5.out),hr.out.t.h.c⟩,⟨hr.out.t.s.m.mono (I9.out.trans le5.out),hr.out.t.s.o.mono (I9.out.trans le5.out),s5.out,hr.out.t.s.f⟩⟩⟩,I9.out.trans le5.out⟩
end
section
open Go.RowKit
attribute [local go_sem] j4.drew j4.alloc j4.drewN WB.holds Oper.semAt_some Q9 O1 J7
structure bI4 (H:j5) (W:Nat) (word:ByteArray):Prop where
 h:∃b o n c,H W=some (.cells #[.slice (some ⟨b,o,none⟩) n c] 33 (0,0))∧0<n∧∀w,j4 H w→w.cell? ⟨b,o,none⟩=some (.string word)
theorem bI4.mono {H H':j5} (k:D8 H H') {W:Nat} {word:ByteArray} (h:bI4 H W word):bI4 H' W word:=let ⟨b,o,n,c,h1,h2,h3⟩:=h.h;⟨b,o,n,c,k _ _ h1,h2,fun w hw=>h3 w (hw.mono k)⟩
theorem dB0 {l:List Mld} {j:Nat} {m:Mld} (s:G5) (e:s.mo=l) (h:At l j m):mld s j=m:=by unfold mld;rw[e];exact h.getD _
theorem cq9 {s:G5} (v:Y0 s) {j:Nat} {m:Mld} (h:At s.mo j m):0≤m.us∧m.us≤12:=by
 have:=List.all_eq_true.1 v.mo m h.mem
 unfold am5 at this
 rw[fh9,fh9]at this
 exact within_iff.1 this.1.2
theorem cA9 {w0 w:World} {H0 H:j5} {O A Wc:Nat} {vm vb vt um uo ua:Value} {t:D5} {x:Int} (r:aA5 w0 H0 O w H vm vb vt um uo ua t) (v:F6 t=true) (hA:Cap H A [x]) (hW:bI4 H Wc ⟨#[99,97,115,116]⟩):
 Calls Tryz.prog 161 #[.pointer (some ⟨O,0,none⟩),.pointer (some ⟨A,0,none⟩),.pointer (some ⟨Wc,0,none⟩)] w (au3 w0 H0 H O t R8 [x]):=by
 obtain⟨i0,b,o,c,a0,a1⟩:=hA.one
 obtain⟨wb,wo,wn,wc,e0,hwn,e1⟩:=hW.h
 have f0:∀w,j4 H w→w.cell? ⟨Wc,0,none⟩=some (.slice (some ⟨wb,wo,none⟩) wn wc):=fun w hw=>D7 e0 hw 0
 have hwn2:(0:Int)<(wn:Int):=by omega
 have hw:=r.c.x.holds
 have hbd:=(aj9.1 v).2.m5
 cases hin:inL t.s.mo x
 ·have hch:M5 t R8 [x]=none:=by unfold M5;simp only[aG6,show ¬R8=R7 by decide,show ¬R8=Y6 by decide,show ¬R8=ac6 by decide,show ¬R8=Q8 by decide,show ¬R8=Z0 by decide,show ¬R8=ar9 by decide,hin,if_true,if_false,Bool.false_eq_true,false_and]
  have hat:=fun(W:World) (c1:J4 w0 H0 O 32 W H #[vm,vb,vt,.int .i64 t.h.ch,um,uo,ua,.int .i64 t.s.fr])=>da3 (c1.cell 4) r.t.s.m x hin
  replace hat:=fe6 hat
  replace hch:=fe6 hch
  have hr:=fe6 r
  clear i0 hbd v hin e1 f0 e0 hwn
  go_enter Tryz.func161,Tryz.ntmps161
  go_upto_region 1 with fail
  go_region_held3 (fun w'=>j4 H w') (first|assumption|exact j4.drew ‹_›|exact j4.alloc ‹_› _|exact j4.drew (j4.alloc ‹_› _)) (first|((go_at_call 162;refine(hat.out _ hr.out.c.drew).mono ?_;rintro e w3 ⟨rfl,hb3⟩;have k1:j4 H w3:=hw.drew.below hb3)))
  go_wp2_with fail
  go_ret
  exact .inr ⟨hch.out,rfl,H,(hr.out.c.drew.below hb3).x,D8.refl H⟩
 ·obtain⟨h0,h1⟩:=bg3.1 hin
  obtain⟨j,rfl⟩:∃j:Nat,x=(j:Int):=⟨x.toNat,by omega⟩
  have hj:j<t.s.mo.length:=by omega
  obtain⟨m,hm⟩:=At.mk hj
  have hus:=cq9 (aj9.1 v).2 hm
  have hwr:wrap64 (m.us+1)=m.us+1:=wrap64_in _ (by omega) (by omega)
  have hml:=dB0 t.s rfl hm
  have hat:=fun(W:World) (c1:J4 w0 H0 O 32 W H #[vm,vb,vt,.int .i64 t.h.ch,um,uo,ua,.int .i64 t.s.fr])=>cF3 c1 (k:=4) rfl r.t.s.m (by omega) j hj
  replace hat:=fe6 hat
  have hr:=fe6 r
  by_cases hbr:m.br=1
  ·have hch:M5 t R8 [(j:Int)]=none:=by unfold M5;simp only[aG6,fh8,show ¬R8=R7 by decide,show ¬R8=Y6 by decide,show ¬R8=ac6 by decide,show ¬R8=Q8 by decide,show ¬R8=Z0 by decide,show ¬R8=ar9 by decide,hin,hml,hbr,if_true,if_false,ne_eq,not_true_eq_false,and_false]
   have hb:(m.br==1)=true:=by rw[beq_iff_eq];exact hbr
   replace hch:=fe6 hch
   clear i0 hbd v hin h0 h1 hus hwr hbr hml
   go_enter Tryz.func161,Tryz.ntmps161
   go_upto_region 1 with fail
   go_region_held3 (fun w'=>j4 H w') (first|assumption|exact j4.drew ‹_›|exact j4.alloc ‹_› _|exact j4.drew (j4.alloc ‹_› _)) (first|((go_at_call 162;refine(hat.out _ hr.out.c.drew).mono ?_;rintro e w3 ⟨g,cg,H',rfl,c3,I9,o3⟩;have k1:j4 H w3:=c3.x.holds.mono I9)))
   obtain⟨ds,⟨rfl,k0,k2,k3⟩,hbg,hHg,hgl,hcs,hfz⟩:=o3.as9 hm
   have q0:w3.cell? ⟨g,j*3+2,none⟩=some (.int .i64 m.br):=hcs 2 _ rfl
   replace hcs:=fe6 hcs
   clear o3 hbg hHg hgl
   go_wp2
   go_ret
   exact .inr ⟨hch.out,rfl,H',c3.x,I9⟩
  ·have hch:M5 t R8 [(j:Int)]=some {t with s:={t.s with mo:=t.s.mo.set j {m with us:=m.us+1}}}:=by unfold M5;simp only[aG6,fh8,show ¬R8=R7 by decide,show ¬R8=Y6 by decide,show ¬R8=ac6 by decide,show ¬R8=Q8 by decide,show ¬R8=Z0 by decide,show ¬R8=ar9 by decide,hin,hml,hbr,if_true,if_false,true_and,ne_eq,not_false_eq_true]
   have hb:(m.br==1)=false:=by rw[beq_eq_false_iff_ne];exact hbr
   replace hch:=fe6 hch
   replace hus:=fe6 hus
   clear i0 hbd v hin h0 h1 hbr hml
   go_enter Tryz.func161,Tryz.ntmps161
   go_upto_region 1 with fail
   go_region_held3 (fun w'=>j4 H w') (first|assumption|exact j4.drew ‹_›|exact j4.alloc ‹_› _|exact j4.drew (j4.alloc ‹_› _)) (first|((go_at_call 162;refine(hat.out _ hr.out.c.drew).mono ?_;rintro e w3 ⟨g,cg,H',rfl,c3,I9,o3⟩;have k1:j4 H w3:=c3.x.holds.mono I9)))
   have c2:=hr.out.c.drew
   obtain⟨ds,⟨rfl,k0,k2,k3⟩,hbg,hHg,hgl,hcs,hfz⟩:=o3.as9 hm
   have hw3:=c3.x.holds
   have e1':=lift I9 e1
   have f0':=lift I9 f0
   have hO:O<w.heap.size:=c2.lt
   have hsz:w0.heap.size≤w.heap.size:=c2.x.below.size
   replace hbg:w.heap.size≤g:=hbg
   have q1:w3.cell? ⟨g,j*3+1,none⟩=some (.int .i64 m.us):=hcs 1 _ rfl
   have q2:w3.cell? ⟨g,j*3+2,none⟩=some (.int .i64 m.br):=hcs 2 _ rfl
   have p1:=hfz (j*3+1)
   have o4:=o3.aV3 (y:={m with us:=m.us+1}) (u:= .int .i64 (m.us+1)) hm (j:=1) (by decide) (fun ds hds=>by
    obtain⟨rfl,_,_,_⟩:=hds
    have hu:=hus.out
    exact⟨rfl,k0,⟨by show _≤m.us+1;omega,by show m.us+1≤_;omega⟩,k3⟩)
   have c4:=c3.other (g:=g) (j*3+1) (.int .i64 (m.us+1)) (by omega) (by omega) hHg
   obtain⟨H5,c5,le5,s5⟩:=c4.close o4 hsz (fun e=>by simp[Value.ownBlock]at e;omega)
   replace c5:=fe6 c5
   replace I9:=fe6 I9
   replace le5:=fe6 le5
   replace s5:=fe6 s5
   replace k0:=fe6 k0
   replace k2:=fe6 k2
   replace k3:=fe6 k3
   clear o3 o4 c4 hbg hHg hgl hO hsz hcs
   go_wp2
   go_ret
   exact .inl ⟨_,vm,vb,vt,.slice (some ⟨g,0,none⟩) t.s.mo.length cg,uo,ua,H5,hch.out,rfl,⟨c5.out,⟨⟨hr.out.t.h.m.mono (I9.out.trans le5.out),hr.out.t.h.b.mono (I9.out.trans le5.out),hr.out.t.h.t.mono (I9.out.trans le5.out),hr.out.t.h.c⟩,⟨s5.out,hr.out.t.s.o.mono (I9.out.trans le5.out),hr.out.t.s.a.mono (I9.out.trans le5.out),hr.out.t.s.f⟩⟩⟩,I9.out.trans le5.out⟩
theorem cr5 {w0 w:World} {H0 H:j5} {O A Wc:Nat} {vm vb vt um uo ua:Value} {t:D5} {x:Int} (r:aA5 w0 H0 O w H vm vb vt um uo ua t) (v:F6 t=true) (hA:Cap H A [x]) (hW:bI4 H Wc ⟨#[98,114,111,107,101]⟩):
 Calls Tryz.prog 161 #[.pointer (some ⟨O,0,none⟩),.pointer (some ⟨A,0,none⟩),.pointer (some ⟨Wc,0,none⟩)] w (au3 w0 H0 H O t O6 [x]):=by
 obtain⟨i0,b,o,c,a0,a1⟩:=hA.one
 obtain⟨wb,wo,wn,wc,e0,hwn,e1⟩:=hW.h
 have f0:∀w,j4 H w→w.cell? ⟨Wc,0,none⟩=some (.slice (some ⟨wb,wo,none⟩) wn wc):=fun w hw=>D7 e0 hw 0
 have hwn2:(0:Int)<(wn:Int):=by omega
 have hw:=r.c.x.holds
 have hbd:=(aj9.1 v).2.m5
 cases hin:inL t.s.mo x
 ·have hch:M5 t O6 [x]=none:=by unfold M5;simp only[aG6,show ¬O6=R7 by decide,show ¬O6=Y6 by decide,show ¬O6=ac6 by decide,show ¬O6=Q8 by decide,show ¬O6=Z0 by decide,show ¬O6=ar9 by decide,show ¬O6=R8 by decide,hin,if_true,if_false,Bool.false_eq_true,false_and]
  have hat:=fun(W:World) (c1:J4 w0 H0 O 32 W H #[vm,vb,vt,.int .i64 t.h.ch,um,uo,ua,.int .i64 t.s.fr])=>da3 (c1.cell 4) r.t.s.m x hin
  replace hat:=fe6 hat
  replace hch:=fe6 hch
  have hr:=fe6 r
  clear i0 hbd v hin e1 f0 e0 hwn
  go_enter Tryz.func161,Tryz.ntmps161
  go_upto_region 1 with fail
  go_region_held3 (fun w'=>j4 H w') (first|assumption|exact j4.drew ‹_›|exact j4.alloc ‹_› _|exact j4.drew (j4.alloc ‹_› _)) (first|((go_at_call 162;refine(hat.out _ hr.out.c.drew).mono ?_;rintro e w3 ⟨rfl,hb3⟩;have k1:j4 H w3:=hw.drew.below hb3)))
  go_wp2_with fail
  go_ret
  exact .inr ⟨hch.out,rfl,H,(hr.out.c.drew.below hb3).x,D8.refl H⟩
 ·obtain⟨h0,h1⟩:=bg3.1 hin
  obtain⟨j,rfl⟩:∃j:Nat,x=(j:Int):=⟨x.toNat,by omega⟩
  have hj:j<t.s.mo.length:=by omega
  obtain⟨m,hm⟩:=At.mk hj
  have hus:=cq9 (aj9.1 v).2 hm
  have hwr:wrap64 (m.us+1)=m.us+1:=wrap64_in _ (by omega) (by omega)
  have hml:=dB0 t.s rfl hm
  have hat:=fun(W:World) (c1:J4 w0 H0 O 32 W H #[vm,vb,vt,.int .i64 t.h.ch,um,uo,ua,.int .i64 t.s.fr])=>cF3 c1 (k:=4) rfl r.t.s.m (by omega) j hj
  replace hat:=fe6 hat
  have hr:=fe6 r
  by_cases hbr:m.br=1
  ·have hch:M5 t O6 [(j:Int)]=none:=by unfold M5;simp only[aG6,fh8,show ¬O6=R7 by decide,show ¬O6=Y6 by decide,show ¬O6=ac6 by decide,show ¬O6=Q8 by decide,show ¬O6=Z0 by decide,show ¬O6=ar9 by decide,show ¬O6=R8 by decide,hin,hml,hbr,if_true,if_false,ne_eq,not_true_eq_false,and_false]
   have hb:(m.br==1)=true:=by rw[beq_iff_eq];exact hbr
   replace hch:=fe6 hch
   clear i0 hbd v hin h0 h1 hus hwr hbr hml
   go_enter Tryz.func161,Tryz.ntmps161
   go_upto_region 1 with fail
   go_region_held3 (fun w'=>j4 H w') (first|assumption|exact j4.drew ‹_›|exact j4.alloc ‹_› _|exact j4.drew (j4.alloc ‹_› _)) (first|((go_at_call 162;refine(hat.out _ hr.out.c.drew).mono ?_;rintro e w3 ⟨g,cg,H',rfl,c3,I9,o3⟩;have k1:j4 H w3:=c3.x.holds.mono I9)))
   obtain⟨ds,⟨rfl,k0,k2,k3⟩,hbg,hHg,hgl,hcs,hfz⟩:=o3.as9 hm
   have q0:w3.cell? ⟨g,j*3+2,none⟩=some (.int .i64 m.br):=hcs 2 _ rfl
   replace hcs:=fe6 hcs
   clear o3 hbg hHg hgl
   go_wp2
   go_ret
   exact .inr ⟨hch.out,rfl,H',c3.x,I9⟩
  ·have hch:M5 t O6 [(j:Int)]=some {t with s:={t.s with mo:=t.s.mo.set j {m with br:=1}}}:=by unfold M5;simp only[aG6,fh8,show ¬O6=R7 by decide,show ¬O6=Y6 by decide,show ¬O6=ac6 by decide,show ¬O6=Q8 by decide,show ¬O6=Z0 by decide,show ¬O6=ar9 by decide,show ¬O6=R8 by decide,hin,hml,hbr,if_true,if_false,true_and,ne_eq,not_false_eq_true]
   have hb:(m.br==1)=false:=by rw[beq_eq_false_iff_ne];exact hbr
   replace hch:=fe6 hch
   replace hus:=fe6 hus
   clear i0 hbd v hin h0 h1 hbr hml
   go_enter Tryz.func161,Tryz.ntmps161
   go_upto_region 1 with fail
   go_region_held3 (fun w'=>j4 H w') (first|assumption|exact j4.drew ‹_›|exact j4.alloc ‹_› _|exact j4.drew (j4.alloc ‹_› _)) (first|((go_at_call 162;refine(hat.out _ hr.out.c.drew).mono ?_;rintro e w3 ⟨g,cg,H',rfl,c3,I9,o3⟩;have k1:j4 H w3:=c3.x.holds.mono I9)))
   have c2:=hr.out.c.drew
   obtain⟨ds,⟨rfl,k0,k2,k3⟩,hbg,hHg,hgl,hcs,hfz⟩:=o3.as9 hm
   have hw3:=c3.x.holds
   have e1':=lift I9 e1
   have f0':=lift I9 f0
   have hO:O<w.heap.size:=c2.lt
   have hsz:w0.heap.size≤w.heap.size:=c2.x.below.size
   replace hbg:w.heap.size≤g:=hbg
   have q1:w3.cell? ⟨g,j*3+1,none⟩=some (.int .i64 m.us):=hcs 1 _ rfl
   have q2:w3.cell? ⟨g,j*3+2,none⟩=some (.int .i64 m.br):=hcs 2 _ rfl
   have p1:=hfz (j*3+2)
   have o4:=o3.aV3 (y:={m with br:=1}) (u:= .int .i64 1) hm (j:=2) (by decide) (fun ds hds=>by
    obtain⟨rfl,_,_,_⟩:=hds
    have hu:=hus.out
    exact⟨rfl,k0,k2,⟨by show(-9223372036854775808:Int)≤1;decide,by show(1:Int)≤9223372036854775807;decide⟩⟩)
   have c4:=c3.other (g:=g) (j*3+2) (.int .i64 1) (by omega) (by omega) hHg
   obtain⟨H5,c5,le5,s5⟩:=c4.close o4 hsz (fun e=>by simp[Value.ownBlock]at e;omega)
   replace c5:=fe6 c5
   replace I9:=fe6 I9
   replace le5:=fe6 le5
   replace s5:=fe6 s5
   replace k0:=fe6 k0
   replace k2:=fe6 k2
   replace k3:=fe6 k3
   clear o3 o4 c4 hbg hHg hgl hO hsz hcs
   go_wp2
   go_ret
   exact .inl ⟨_,vm,vb,vt,.slice (some ⟨g,0,none⟩) t.s.mo.length cg,uo,ua,H5,hch.out,rfl,⟨c5.out,⟨⟨hr.out.t.h.m.mono (I9.out.trans le5.out),hr.out.t.h.b.mono (I9.out.trans le5.out),hr.out.t.h.t.mono (I9.out.trans le5.out),hr.out.t.h.c⟩,⟨s5.out,hr.out.t.s.o.mono (I9.out.trans le5.out),hr.out.t.s.a.mono (I9.out.trans le5.out),hr.out.t.s.f⟩⟩⟩,I9.out.trans le5.out⟩
end
end Go.Proofs.YtbliehinagkldaaGreatDoor
