/- Lemmas and walks on which the claims of this seat lean (names and blanks made short by a program): ORef2i. -/
import Derived.Test.YtbliehinagkldaaGreatDoorG02
import Derived.Test.YtbliehinagkldaaGreatDoorG07
import Derived.Test.YtbliehinagkldaaGreatDoorG12

set_option linter.all false
set_option maxRecDepth 100000
set_option maxHeartbeats 16000000
open Go.Lib renaming hid → fe6
open List renaming setIfInBounds_toArray → fe7, getElem?_cons_zero → fe8, getElem?_cons_succ → fe9, getElem?_toArray → ff0, set_cons_zero → ff1, set_cons_succ → ff2, length_append → ff4, drop_succ_cons → ff5, drop_zero → ff6, length_cons → ff8, nil_append → ff9, length_nil → fg1, cons_append → fg2, push_toArray → fg3, length_take → fg6
open Array renaming replicate_zero → fg8, replicate_succ → fg9
open Nat renaming le_refl → fh0, zero_le → fh3, ne_of_lt → fh5, reduceAdd → fh6, reduceSub → fh7
namespace Go.Proofs.YtbliehinagkldaaGreatDoor
section
open Go.RowKit
attribute [local go_sem] j4.drew j4.alloc j4.drewN WB.holds Oper.semAt_some
theorem Own.dJ7 {α:Type} [Enc α] {H H':j5} {base:Nat} {w:World} {e:TypeId} {v:Value} {xs:List α} (o:Own H base w e v xs) (hne:xs≠[]) (hw:j4 H' w) (s:Sl H' v xs) {b:Nat} (hb:v.ownBlock=some b):∃cur e,H' b=some (.cells cur e (0,0)):=by
 obtain⟨a,c,rfl,_,_,_,h|⟨b',o',cur,e',fr,rfl,hH,_⟩⟩:=s
 ·exact absurd h hne
 ·have:b'=b:=by simpa [Value.ownBlock]using hb
  subst this
  obtain⟨eV6,h2⟩:=o.X7 hb
  have h3:=hw.at_ _ _ hH
  rw[h2]at h3
  cases h3
  exact⟨_,_,hH⟩
theorem Own.bW5 {α:Type} [Enc α] {H:j5} {base:Nat} {w w':World} {e:TypeId} {v u:Value} {xs:List α} (o:Own H base w e v xs) (hg:w.grownBy w' u.ownBlock) (hne:∀b,v.ownBlock=some b→u.ownBlock≠some b):Own H base w' e v xs:=
 o.move fun b hb=>hg.block b (o.lt b hb).2 fun e=>hne b hb e.symm
theorem J4.bg8 {w0 w w':World} {H0 H:j5} {O:Nat} {T:TypeId} {cur:Array Value} {u:Value} (c:J4 w0 H0 O T w H cur) (hg:w.grownBy w' u.ownBlock) (hne:u.ownBlock≠some O) (hb:∀q,u.ownBlock=some q→w0.heap.size≤q) (hf:∀q,u.ownBlock=some q→H q=none):J4 w0 H0 O T w' H cur:=
 ⟨c.x.grown hg hb hf,(hg.block O c.lt (fun e=>hne e.symm)).trans c.at_,c.ob,c.oH⟩
structure Cp (w0:World) (H0 H1:j5) (R:Nat) (mv nv:Option Value) (X:Option Nat) (xs:List Mld) (ys:List Int) (w:World):Prop where
 x:Ext w0 H0 w H1
 r:J4 w0 H0 R 30 w H1 #[.slice none 0 0,.slice none 0 0,.slice none 0 0,.int .i64 0]
 fm:∀v,mv=some v→Own H1 w0.heap.size w 96 v xs
 fn:∀v,nv=some v→Own H1 w0.heap.size w 3 v ys
 fx:∀k,X=some k→J4 w0 H0 k 30 w H1 #[.slice none 0 0,.slice none 0 0,.slice none 0 0,.int .i64 0]∧R≠k
section
variable {w0 w w':World} {H0 H1:j5} {R:Nat} {mv nv:Option Value} {X:Option Nat} {xs:List Mld} {ys:List Int}
theorem Cp.all (c:Cp w0 H0 H1 R mv nv X xs ys w) (o:Obj):Cp w0 H0 H1 R mv nv X xs ys (w.alloc o):=
 ⟨c.x.alloc o,c.r.alloc o,fun v h=>(c.fm v h).alloc o,fun v h=>(c.fn v h).alloc o,fun k h=>⟨(c.fx k h).1.alloc o,(c.fx k h).2⟩⟩
theorem Cp.allM (c:Cp w0 H0 H1 R none nv X xs ys w):Cp w0 H0 H1 R (some (.slice (some ⟨w.heap.size,0,none⟩) 0 0)) nv X [] ys (w.alloc (.cells #[] 96)):=
 have d:=c.all (.cells #[] 96)
 ⟨d.x,d.r,fun v h=>by cases h;exact Own.emptyAt (heap_alloc_new _ _) c.x.below.size (c.x.holds.D6 (fh0 _)),d.fn,d.fx⟩
theorem Cp.bn4 (c:Cp w0 H0 H1 R mv none X xs ys w):Cp w0 H0 H1 R mv (some (.slice (some ⟨w.heap.size,0,none⟩) 0 0)) X xs [] (w.alloc (.cells #[] 3)):=
 have d:=c.all (.cells #[] 3)
 ⟨d.x,d.r,d.fm,fun v h=>by cases h;exact Own.emptyAt (heap_alloc_new _ _) c.x.below.size (c.x.holds.D6 (fh0 _)),d.fx⟩
theorem Cp.aR0 (c:Cp w0 H0 H1 R mv nv none xs ys w):Cp w0 H0 H1 R mv nv (some w.heap.size) xs ys (w.alloc (.cells #[.slice none 0 0,.slice none 0 0,.slice none 0 0,.int .i64 0] 30)):=
 have d:=c.all (.cells #[.slice none 0 0,.slice none 0 0,.slice none 0 0,.int .i64 0] 30)
 ⟨d.x,d.r,d.fm,d.fn,fun k h=>by cases h;exact⟨J4.new c.x #[.slice none 0 0,.slice none 0 0,.slice none 0 0,.int .i64 0] 30,fh5 c.r.lt⟩⟩
theorem Cp.aK8 {v v':Value} {xs':List Mld} (c:Cp w0 H0 H1 R (some v) nv X xs ys w) (q:Own H1 w0.heap.size w' 96 v' ([]++xs')) (x:Ext w0 H0 w' H1) (g:w.grownBy w' v.ownBlock):Cp w0 H0 H1 R (some v') nv X xs' ys w':=
 have om:=c.fm v rfl
 ⟨x,c.r.bg8 g (om.P8 c.r.at_ (by decide)) (fun q e=>(om.lt q e).1) om.free,fun u h=>by cases h;exact q,
   fun u h=>(c.fn u h).bW5 g (fun q e1 e2=>by obtain⟨c9,e9⟩:=(c.fn u h).X7 e1;exact om.P8 e9 (by decide) e2),
   fun k h=>⟨(c.fx k h).1.bg8 g (om.P8 (c.fx k h).1.at_ (by decide)) (fun q e=>(om.lt q e).1) om.free,(c.fx k h).2⟩⟩
theorem Cp.ay7 {v v':Value} {ys':List Int} (c:Cp w0 H0 H1 R mv (some v) X xs ys w) (q:Own H1 w0.heap.size w' 3 v' ([]++ys')) (x:Ext w0 H0 w' H1) (g:w.grownBy w' v.ownBlock):Cp w0 H0 H1 R mv (some v') X xs ys' w':=
 have om:=c.fn v rfl
 ⟨x,c.r.bg8 g (om.P8 c.r.at_ (by decide)) (fun q e=>(om.lt q e).1) om.free,
   fun u h=>(c.fm u h).bW5 g (fun q e1 e2=>by obtain⟨c9,e9⟩:=(c.fm u h).X7 e1;exact om.P8 e9 (by decide) e2),fun u h=>by cases h;exact q,
   fun k h=>⟨(c.fx k h).1.bg8 g (om.P8 (c.fx k h).1.at_ (by decide)) (fun q e=>(om.lt q e).1) om.free,(c.fx k h).2⟩⟩
theorem Cp.fin {X:Nat} {p3 p7:Option Addr} {m3 q3 m7 q7:Nat} (c:Cp w0 H0 H1 R (some (.slice p3 m3 q3)) (some (.slice p7 m7 q7)) (some X) xs ys w) (f:Int):
 ∃(X':Nat) (vm9 va9:Value) (Hx:j5),Value.pointer (some ⟨X,0,none⟩)= .pointer (some ⟨X',0,none⟩)∧J4 w0 H0 X' 30 ((((w.setCell ⟨X,0,none⟩ (.slice p3 m3 q3)).setCell ⟨X,1,none⟩ (.slice none 0 0)).setCell ⟨X,2,none⟩ (.slice p7 m7 q7)).setCell ⟨X,3,none⟩ (.int .i64 f)) Hx #[vm9,.slice none 0 0,va9,.int .i64 f]∧
  J4 w0 H0 R 30 ((((w.setCell ⟨X,0,none⟩ (.slice p3 m3 q3)).setCell ⟨X,1,none⟩ (.slice none 0 0)).setCell ⟨X,2,none⟩ (.slice p7 m7 q7)).setCell ⟨X,3,none⟩ (.int .i64 f)) Hx #[.slice none 0 0,.slice none 0 0,.slice none 0 0,.int .i64 0]∧R≠X'∧D8 H1 Hx∧Sl Hx vm9 xs∧Sl Hx va9 ys∧Hid (ys≠[]→∀b,va9.ownBlock=some b→w0.heap.size≤b∧∃cur e,Hx b=some (.cells cur e (0,0))):=by
 obtain⟨cX,hRX⟩:=c.fx _ rfl
 have o0:=c.fm _ rfl
 have o4:=c.fn _ rfl
 have hX3:=o0.P8 cX.at_ (by decide)
 have hR3:=o0.P8 c.r.at_ (by decide)
 have hX7:=o4.P8 cX.at_ (by decide)
 have hR7:=o4.P8 c.r.at_ (by decide)
 have cX9:=(((cX.set 0 (.slice p3 m3 q3)).set 1 (.slice none 0 0)).set 2 (.slice p7 m7 q7)).set 3 (.int .i64 f)
 have cR9:=(((c.r.off (a:=⟨X,0,none⟩) cX.ob cX.oH (Ne.symm hRX) (.slice p3 m3 q3)).off (a:=⟨X,1,none⟩) cX.ob cX.oH (Ne.symm hRX) (.slice none 0 0)).off (a:=⟨X,2,none⟩) cX.ob cX.oH (Ne.symm hRX) (.slice p7 m7 q7)).off (a:=⟨X,3,none⟩) cX.ob cX.oH (Ne.symm hRX) (.int .i64 f)
 have o39:=(((o0.setCell (a:=⟨X,0,none⟩) hX3 (.slice p3 m3 q3)).setCell (a:=⟨X,1,none⟩) hX3 (.slice none 0 0)).setCell (a:=⟨X,2,none⟩) hX3 (.slice p7 m7 q7)).setCell (a:=⟨X,3,none⟩) hX3 (.int .i64 f)
 have o79:=(((o4.setCell (a:=⟨X,0,none⟩) hX7 (.slice p3 m3 q3)).setCell (a:=⟨X,1,none⟩) hX7 (.slice none 0 0)).setCell (a:=⟨X,2,none⟩) hX7 (.slice p7 m7 q7)).setCell (a:=⟨X,3,none⟩) hX7 (.int .i64 f)
 simp only[fe7,ff1,ff2]at cX9
 obtain⟨Ha,xa,la,sa,na⟩:=o39.close cX9.x
 have o7a:=o79.bz5 la (fun b hb=>(na b (fun e=>by obtain⟨c9,e9⟩:=o79.X7 hb;exact o39.P8 e9 (by decide) e)).trans (o79.free b hb))
 obtain⟨Hb,xb,lb,sb,nb⟩:=o7a.close xa
 exact⟨X,_,_,Hb,rfl,⟨xb,cX9.at_,cX9.ob,(nb X hX7).trans ((na X hX3).trans cX9.oH)⟩,⟨xb,cR9.at_,cR9.ob,(nb R hR7).trans ((na R hR3).trans cR9.oH)⟩,hRX,la.trans lb,sa.mono lb,sb,fe6 fun hne b hb=>⟨(o79.lt b hb).1,o79.dJ7 hne xb.holds sb hb⟩⟩
end
theorem ce2 (vm vo va:Value) (s:G5) (hl:s.mo.length≤100000∧s.wo.length≤100000∧s.wa.length≤100000∧∀x∈s.wo,x.length≤100000) (H:j5) (w:World) (hw:j4 H w) (hs:Sho H vm vo va s):
 Calls Tryz.prog 73 #[aq3 vm vo va s] w (Post w H fun u H'=>∃um uo ua,u=aq3 um uo ua s∧Sho H' um uo ua s∧(s.wa≠[]→∀b,ua.ownBlock=some b→w.heap.size≤b∧∃cur e,H' b=some (.cells cur e (0,0)))):=by
 obtain⟨hl1,hl2,hl3,hl4⟩:=hl
 obtain⟨a0,c0,rfl,_,_⟩:=hs.m.form
 obtain⟨a1,c1,rfl,_,_⟩:=hs.o.form
 obtain⟨a2,c2,rfl,_,_⟩:=hs.a.form
 have hI:=hs.f
 go_enter Tryz.func73,Tryz.ntmps73
 go_upto_region 1 with(refine af8 rfl _ rfl (Ext.refl hw) ?_;intro B w1 H1 hle hx hB hBw;obtain⟨hc0,hc1,hc2,hc3⟩:=V6 hB;clear hB hw;have hw1:=hx.holds)
 have aH7:=hs.m.mono hle
 have bV8:=hs.o.mono hle
 have ay6:=hs.a.mono hle
 have cR:=J4.new hx #[.slice none 0 0,.slice none 0 0,.slice none 0 0,.int .i64 0] 30
 have xA:=cR.x
 generalize w1.alloc (.cells #[.slice none 0 0,.slice none 0 0,.slice none 0 0,.int .i64 0] 30)=wA at*
 generalize w1.heap.size=R at*
 have hwA:=xA.holds
 have hbM:Hid ((([]:List Mld).length+s.mo.length)*Enc.M4 Mld≤140737488355328∧([]:List Mld).length+s.mo.length≤9223372036854775807):=by show(0+_)*24≤_∧0+_≤_;omega
 have hbI:Hid ((([]:List Int).length+s.wa.length)*Enc.M4 Int≤140737488355328∧([]:List Int).length+s.wa.length≤9223372036854775807):=by show(0+_)*8≤_∧0+_≤_;omega
 clear hx hw1
 go_cut [3] (fun p wx=>∃(X:Nat) (vm9 va9:Value) (Hx:j5),p= .pointer (some ⟨X,0,none⟩)∧J4 w H X 30 wx Hx #[vm9,.slice none 0 0,va9,.int .i64 s.fr]∧J4 w H R 30 wx Hx #[.slice none 0 0,.slice none 0 0,.slice none 0 0,.int .i64 0]∧R≠X∧D8 H1 Hx∧Sl Hx vm9 s.mo∧Sl Hx va9 s.wa∧Hid (s.wa≠[]→∀b,va9.ownBlock=some b→w.heap.size≤b∧∃cur e,Hx b=some (.cells cur e (0,0))))
 case first=>
  refine U1 (S:=(fun w'=>j4 H1 w')) 12 (by kernel_rfl) (by kernel_rfl) ?_ (fun N9=> ?_)
  ·(try dsimp only)
   (first|assumption|exact j4.drew ‹_›|exact j4.alloc ‹_› _)
  simp only[ff8,fg1,fh6,fh7,fg9,fg8,fg3,ff9,fg2]
  have cB:Cp w H H1 R none none none [] [] (World.drew wA):=⟨xA.drew,cR.drew,fun _ h=>(by cases h),fun _ h=>(by cases h),fun _ h=>(by cases h)⟩
  generalize World.drew wA=wB at*
  refine hdA 1 ?_
  refine hdA 2 ?_
  refine hdA 5 ?_
  refine hdA 6 ?_
  refine hdA 8 ?_
  refine hdA 9 ?_
  (try simp only[Act.put,fe7,ff1,ff2])
  refine hdR 0 [4,11] (fun K hK=> ?_) ?_
  ·go_simp
   have c_0:=cB.allM
   have k_0:=c_0.x.holds
   generalize World.alloc wB (.cells #[] 96)=w_0 at*
   generalize(World.heap wB).size=g0 at*
   refine hK.out _ _ (k_0) (fun I4=> ?_)
   clear hK K N9
   (try simp only[Act.put,fe7,ff1,ff2])
   refine hdR 3 [4,11] (fun K hK=> ?_) ?_
   ·refine P7 (w0:=w) (H0:=H) aQ1 rfl _ _ rfl c_0.x rfl (c_0.fm _ rfl) rfl aH7 hbM.out.1 hbM.out.2 ?_
    intro v3 w_03 q x ey1 gg
    have dw4:=c_0.aK8 q x gg
    clear q x gg
    obtain⟨p3,q3,rfl,_,_⟩:=(dw4.fm _ rfl).form
    refine hK.out _ _ (ey1) (fun F8=> ?_)
    clear hK K I4
    (try simp only[Act.put,fe7,ff1,ff2])
    refine hdR 4 [11] (fun K hK=> ?_) ?_
    ·go_simp
     have bP5:=dw4.bn4
     have eg6:=bP5.x.holds
     generalize World.alloc w_03 (.cells #[] 3)=w_034 at*
     generalize(World.heap w_03).size=g4 at*
     refine hK.out _ _ (eg6) (fun F9=> ?_)
     clear hK K F8
     (try simp only[Act.put,fe7,ff1,ff2])
     refine hdR 7 [11] (fun K hK=> ?_) ?_
     ·refine P7 (w0:=w) (H0:=H) ag8 rfl _ _ rfl bP5.x rfl (bP5.fn _ rfl) rfl ay6 hbI.out.1 hbI.out.2 ?_
      intro v7 w_0347 q x dX0 gg
      have dj1:=bP5.ay7 q x gg
      clear q x gg
      obtain⟨p7,q7,rfl,_,_⟩:=(dj1.fn _ rfl).form
      refine hK.out _ _ (dX0) (fun I7=> ?_)
      clear hK K F9
      refine hdA 10 ?_
      (try simp only[Act.put,fe7,ff1,ff2])
      refine hdR 11 [] (fun K hK=> ?_) r9.nil
      go_simp
      have bW6:=dj1.aR0
      have dJ8:=bW6.x.holds
      generalize World.alloc w_0347 (.cells #[.slice none 0 0,.slice none 0 0,.slice none 0 0,.int .i64 0] 30)=eB1 at*
      generalize(World.heap w_0347).size=X at*
      refine hK.out _ _ (dJ8) (fun aa1=> ?_)
      clear hK K I7
      (try simp only[Act.put,fe7,ff1,ff2])
      refine G9 (by kernel_rfl) ?_
      simp only[ff5,ff6]
      have hX:=(bW6.fx _ rfl).1
      have m0:=hX.cell 0
      have m1:=hX.cell 1
      have m2:=hX.cell 2
      have m3:=hX.cell 3
      have mf:=hX.fz
      simp at m0 m1 m2 m3
      go_wp2_with fail
      go_meet
      exact bW6.fin _
     refine r9.cons (by simp only[ff0,fe9,fe8]<;>rfl) (fun K hK=> ?_) ?_
     ·go_simp
      have bP6:=bP5.aR0
      have dX1:=bP6.x.holds
      generalize World.alloc w_034 (.cells #[.slice none 0 0,.slice none 0 0,.slice none 0 0,.int .i64 0] 30)=eK9 at*
      generalize(World.heap w_034).size=X at*
      refine hK.out _ _ (dX1) (fun I7=> ?_)
      clear hK K F9
      (try simp only[Act.put,fe7,ff1,ff2])
      refine hdR 7 [] (fun K hK=> ?_) r9.nil
      refine P7 (w0:=w) (H0:=H) ag8 rfl _ _ rfl bP6.x rfl (bP6.fn _ rfl) rfl ay6 hbI.out.1 hbI.out.2 ?_
      intro v7 eB2 q x dJ9 gg
      have bW7:=bP6.ay7 q x gg
      clear q x gg
      obtain⟨p7,q7,rfl,_,_⟩:=(bW7.fn _ rfl).form
      refine hK.out _ _ (dJ9) (fun aa1=> ?_)
      clear hK K I7
      refine hdA 10 ?_
      (try simp only[Act.put,fe7,ff1,ff2])
      refine G9 (by kernel_rfl) ?_
      simp only[ff5,ff6]
      have hX:=(bW7.fx _ rfl).1
      have m0:=hX.cell 0
      have m1:=hX.cell 1
      have m2:=hX.cell 2
      have m3:=hX.cell 3
      have mf:=hX.fz
      simp at m0 m1 m2 m3
      go_wp2_with fail
      go_meet
      exact bW7.fin _
     exact r9.nil
    refine r9.cons (by simp only[ff0,fe9,fe8]<;>rfl) (fun K hK=> ?_) ?_
    ·go_simp
     have dC6:=dw4.aR0
     have eg7:=dC6.x.holds
     generalize World.alloc w_03 (.cells #[.slice none 0 0,.slice none 0 0,.slice none 0 0,.int .i64 0] 30)=dC7 at*
     generalize(World.heap w_03).size=X at*
     refine hK.out _ _ (eg7) (fun F9=> ?_)
     clear hK K F8
     (try simp only[Act.put,fe7,ff1,ff2])
     refine hdR 4 [] (fun K hK=> ?_) r9.nil
     go_simp
     have bP7:=dC6.bn4
     have dX2:=bP7.x.holds
     generalize World.alloc dC7 (.cells #[] 3)=eL0 at*
     generalize(World.heap dC7).size=g4 at*
     refine hK.out _ _ (dX2) (fun I7=> ?_)
     clear hK K F9
     (try simp only[Act.put,fe7,ff1,ff2])
     refine hdR 7 [] (fun K hK=> ?_) r9.nil
     refine P7 (w0:=w) (H0:=H) ag8 rfl _ _ rfl bP7.x rfl (bP7.fn _ rfl) rfl ay6 hbI.out.1 hbI.out.2 ?_
     intro v7 eB3 q x dK0 gg
     have bW8:=bP7.ay7 q x gg
     clear q x gg
     obtain⟨p7,q7,rfl,_,_⟩:=(bW8.fn _ rfl).form
     refine hK.out _ _ (dK0) (fun aa1=> ?_)
     clear hK K I7
     refine hdA 10 ?_
     (try simp only[Act.put,fe7,ff1,ff2])
     refine G9 (by kernel_rfl) ?_
     simp only[ff5,ff6]
     have hX:=(bW8.fx _ rfl).1
     have m0:=hX.cell 0
     have m1:=hX.cell 1
     have m2:=hX.cell 2
     have m3:=hX.cell 3
     have mf:=hX.fz
     simp at m0 m1 m2 m3
     go_wp2_with fail
     go_meet
     exact bW8.fin _
    exact r9.nil
   refine r9.cons (by simp only[ff0,fe9,fe8]<;>rfl) (fun K hK=> ?_) ?_
   ·go_simp
    have cv0:=c_0.bn4
    have ey2:=cv0.x.holds
    generalize World.alloc w_0 (.cells #[] 3)=w_04 at*
    generalize(World.heap w_0).size=g4 at*
    refine hK.out _ _ (ey2) (fun F8=> ?_)
    clear hK K I4
    (try simp only[Act.put,fe7,ff1,ff2])
    refine hdR 3 [11] (fun K hK=> ?_) ?_
    ·refine P7 (w0:=w) (H0:=H) aQ1 rfl _ _ rfl cv0.x rfl (cv0.fm _ rfl) rfl aH7 hbM.out.1 hbM.out.2 ?_
     intro v3 w_043 q x eg8 gg
     have bP8:=cv0.aK8 q x gg
     clear q x gg
     obtain⟨p3,q3,rfl,_,_⟩:=(bP8.fm _ rfl).form
     refine hK.out _ _ (eg8) (fun F9=> ?_)
     clear hK K F8
     (try simp only[Act.put,fe7,ff1,ff2])
     refine hdR 7 [11] (fun K hK=> ?_) ?_
     ·refine P7 (w0:=w) (H0:=H) ag8 rfl _ _ rfl bP8.x rfl (bP8.fn _ rfl) rfl ay6 hbI.out.1 hbI.out.2 ?_
      intro v7 w_0437 q x dX3 gg
      have dj2:=bP8.ay7 q x gg
      clear q x gg
      obtain⟨p7,q7,rfl,_,_⟩:=(dj2.fn _ rfl).form
      refine hK.out _ _ (dX3) (fun I7=> ?_)
      clear hK K F9
      refine hdA 10 ?_
      (try simp only[Act.put,fe7,ff1,ff2])
      refine hdR 11 [] (fun K hK=> ?_) r9.nil
      go_simp
      have bW9:=dj2.aR0
      have dK1:=bW9.x.holds
      generalize World.alloc w_0437 (.cells #[.slice none 0 0,.slice none 0 0,.slice none 0 0,.int .i64 0] 30)=eB4 at*
      generalize(World.heap w_0437).size=X at*
      refine hK.out _ _ (dK1) (fun aa1=> ?_)
      clear hK K I7
      (try simp only[Act.put,fe7,ff1,ff2])
      refine G9 (by kernel_rfl) ?_
      simp only[ff5,ff6]
      have hX:=(bW9.fx _ rfl).1
      have m0:=hX.cell 0
      have m1:=hX.cell 1
      have m2:=hX.cell 2
      have m3:=hX.cell 3
      have mf:=hX.fz
      simp at m0 m1 m2 m3
      go_wp2_with fail
      go_meet
      exact bW9.fin _
     refine r9.cons (by simp only[ff0,fe9,fe8]<;>rfl) (fun K hK=> ?_) ?_
     ·go_simp
      have bP9:=bP8.aR0
      have dX4:=bP9.x.holds
      generalize World.alloc w_043 (.cells #[.slice none 0 0,.slice none 0 0,.slice none 0 0,.int .i64 0] 30)=eL1 at*
      generalize(World.heap w_043).size=X at*
      refine hK.out _ _ (dX4) (fun I7=> ?_)
      clear hK K F9
      (try simp only[Act.put,fe7,ff1,ff2])
      refine hdR 7 [] (fun K hK=> ?_) r9.nil
      refine P7 (w0:=w) (H0:=H) ag8 rfl _ _ rfl bP9.x rfl (bP9.fn _ rfl) rfl ay6 hbI.out.1 hbI.out.2 ?_
      intro v7 eB5 q x dK2 gg
      have bX0:=bP9.ay7 q x gg
      clear q x gg
      obtain⟨p7,q7,rfl,_,_⟩:=(bX0.fn _ rfl).form
      refine hK.out _ _ (dK2) (fun aa1=> ?_)
      clear hK K I7
      refine hdA 10 ?_
      (try simp only[Act.put,fe7,ff1,ff2])
      refine G9 (by kernel_rfl) ?_
      simp only[ff5,ff6]
      have hX:=(bX0.fx _ rfl).1
      have m0:=hX.cell 0
      have m1:=hX.cell 1
      have m2:=hX.cell 2
      have m3:=hX.cell 3
      have mf:=hX.fz
      simp at m0 m1 m2 m3
      go_wp2_with fail
      go_meet
      exact bX0.fin _
     exact r9.nil
    refine r9.cons (by simp only[ff0,fe9,fe8]<;>rfl) (fun K hK=> ?_) ?_
    ·go_simp
     have ch9:=cv0.aR0
     have eg9:=ch9.x.holds
     generalize World.alloc w_04 (.cells #[.slice none 0 0,.slice none 0 0,.slice none 0 0,.int .i64 0] 30)=eR1 at*
     generalize(World.heap w_04).size=X at*
     refine hK.out _ _ (eg9) (fun F9=> ?_)
     clear hK K F8
     (try simp only[Act.put,fe7,ff1,ff2])
     refine hdR 3 [] (fun K hK=> ?_) r9.nil
     refine P7 (w0:=w) (H0:=H) aQ1 rfl _ _ rfl ch9.x rfl (ch9.fm _ rfl) rfl aH7 hbM.out.1 hbM.out.2 ?_
     intro v3 eL2 q x dX5 gg
     have bQ0:=ch9.aK8 q x gg
     clear q x gg
     obtain⟨p3,q3,rfl,_,_⟩:=(bQ0.fm _ rfl).form
     refine hK.out _ _ (dX5) (fun I7=> ?_)
     clear hK K F9
     (try simp only[Act.put,fe7,ff1,ff2])
     refine hdR 7 [] (fun K hK=> ?_) r9.nil
     refine P7 (w0:=w) (H0:=H) ag8 rfl _ _ rfl bQ0.x rfl (bQ0.fn _ rfl) rfl ay6 hbI.out.1 hbI.out.2 ?_
     intro v7 eB6 q x dK3 gg
     have bX1:=bQ0.ay7 q x gg
     clear q x gg
     obtain⟨p7,q7,rfl,_,_⟩:=(bX1.fn _ rfl).form
     refine hK.out _ _ (dK3) (fun aa1=> ?_)
     clear hK K I7
     refine hdA 10 ?_
     (try simp only[Act.put,fe7,ff1,ff2])
     refine G9 (by kernel_rfl) ?_
     simp only[ff5,ff6]
     have hX:=(bX1.fx _ rfl).1
     have m0:=hX.cell 0
     have m1:=hX.cell 1
     have m2:=hX.cell 2
     have m3:=hX.cell 3
     have mf:=hX.fz
     simp at m0 m1 m2 m3
     go_wp2_with fail
     go_meet
     exact bX1.fin _
    exact r9.nil
   refine r9.cons (by simp only[ff0,fe9,fe8]<;>rfl) (fun K hK=> ?_) ?_
   ·go_simp
    have cv1:=c_0.aR0
    have ey3:=cv1.x.holds
    generalize World.alloc w_0 (.cells #[.slice none 0 0,.slice none 0 0,.slice none 0 0,.int .i64 0] 30)=dX6 at*
    generalize(World.heap w_0).size=X at*
    refine hK.out _ _ (ey3) (fun F8=> ?_)
    clear hK K I4
    (try simp only[Act.put,fe7,ff1,ff2])
    refine hdR 3 [4] (fun K hK=> ?_) ?_
    ·refine P7 (w0:=w) (H0:=H) aQ1 rfl _ _ rfl cv1.x rfl (cv1.fm _ rfl) rfl aH7 hbM.out.1 hbM.out.2 ?_
     intro v3 dC8 q x eh0 gg
     have dC9:=cv1.aK8 q x gg
     clear q x gg
     obtain⟨p3,q3,rfl,_,_⟩:=(dC9.fm _ rfl).form
     refine hK.out _ _ (eh0) (fun F9=> ?_)
     clear hK K F8
     (try simp only[Act.put,fe7,ff1,ff2])
     refine hdR 4 [] (fun K hK=> ?_) r9.nil
     go_simp
     have bQ1:=dC9.bn4
     have dX7:=bQ1.x.holds
     generalize World.alloc dC8 (.cells #[] 3)=eL3 at*
     generalize(World.heap dC8).size=g4 at*
     refine hK.out _ _ (dX7) (fun I7=> ?_)
     clear hK K F9
     (try simp only[Act.put,fe7,ff1,ff2])
     refine hdR 7 [] (fun K hK=> ?_) r9.nil
     refine P7 (w0:=w) (H0:=H) ag8 rfl _ _ rfl bQ1.x rfl (bQ1.fn _ rfl) rfl ay6 hbI.out.1 hbI.out.2 ?_
     intro v7 eB7 q x dK4 gg
     have bX2:=bQ1.ay7 q x gg
     clear q x gg
     obtain⟨p7,q7,rfl,_,_⟩:=(bX2.fn _ rfl).form
     refine hK.out _ _ (dK4) (fun aa1=> ?_)
     clear hK K I7
     refine hdA 10 ?_
     (try simp only[Act.put,fe7,ff1,ff2])
     refine G9 (by kernel_rfl) ?_
     simp only[ff5,ff6]
     have hX:=(bX2.fx _ rfl).1
     have m0:=hX.cell 0
     have m1:=hX.cell 1
     have m2:=hX.cell 2
     have m3:=hX.cell 3
     have mf:=hX.fz
     simp at m0 m1 m2 m3
     go_wp2_with fail
     go_meet
     exact bX2.fin _
    refine r9.cons (by simp only[ff0,fe9,fe8]<;>rfl) (fun K hK=> ?_) ?_
    ·go_simp
     have ci0:=cv1.bn4
     have eh1:=ci0.x.holds
     generalize World.alloc dX6 (.cells #[] 3)=eR2 at*
     generalize(World.heap dX6).size=g4 at*
     refine hK.out _ _ (eh1) (fun F9=> ?_)
     clear hK K F8
     (try simp only[Act.put,fe7,ff1,ff2])
     refine hdR 3 [] (fun K hK=> ?_) r9.nil
     refine P7 (w0:=w) (H0:=H) aQ1 rfl _ _ rfl ci0.x rfl (ci0.fm _ rfl) rfl aH7 hbM.out.1 hbM.out.2 ?_
     intro v3 eL4 q x dX8 gg
     have bQ2:=ci0.aK8 q x gg
     clear q x gg
     obtain⟨p3,q3,rfl,_,_⟩:=(bQ2.fm _ rfl).form
     refine hK.out _ _ (dX8) (fun I7=> ?_)
     clear hK K F9
     (try simp only[Act.put,fe7,ff1,ff2])
     refine hdR 7 [] (fun K hK=> ?_) r9.nil
     refine P7 (w0:=w) (H0:=H) ag8 rfl _ _ rfl bQ2.x rfl (bQ2.fn _ rfl) rfl ay6 hbI.out.1 hbI.out.2 ?_
     intro v7 eB8 q x dK5 gg
     have bX3:=bQ2.ay7 q x gg
     clear q x gg
     obtain⟨p7,q7,rfl,_,_⟩:=(bX3.fn _ rfl).form
     refine hK.out _ _ (dK5) (fun aa1=> ?_)
     clear hK K I7
     refine hdA 10 ?_
     (try simp only[Act.put,fe7,ff1,ff2])
     refine G9 (by kernel_rfl) ?_
     simp only[ff5,ff6]
     have hX:=(bX3.fx _ rfl).1
     have m0:=hX.cell 0
     have m1:=hX.cell 1
     have m2:=hX.cell 2
     have m3:=hX.cell 3
     have mf:=hX.fz
     simp at m0 m1 m2 m3
     go_wp2_with fail
     go_meet
     exact bX3.fin _
    exact r9.nil
   exact r9.nil
  refine r9.cons (by simp only[ff0,fe9,fe8]<;>rfl) (fun K hK=> ?_) ?_
  ·go_simp
   have c_4:=cB.bn4
   have k_4:=c_4.x.holds
   generalize World.alloc wB (.cells #[] 3)=w_4 at*
   generalize(World.heap wB).size=g4 at*
   refine hK.out _ _ (k_4) (fun I4=> ?_)
   clear hK K N9
   (try simp only[Act.put,fe7,ff1,ff2])
   refine hdR 0 [11] (fun K hK=> ?_) ?_
   ·go_simp
    have cv2:=c_4.allM
    have ey4:=cv2.x.holds
    generalize World.alloc w_4 (.cells #[] 96)=w_40 at*
    generalize(World.heap w_4).size=g0 at*
    refine hK.out _ _ (ey4) (fun F8=> ?_)
    clear hK K I4
    (try simp only[Act.put,fe7,ff1,ff2])
    refine hdR 3 [11] (fun K hK=> ?_) ?_
    ·refine P7 (w0:=w) (H0:=H) aQ1 rfl _ _ rfl cv2.x rfl (cv2.fm _ rfl) rfl aH7 hbM.out.1 hbM.out.2 ?_
     intro v3 w_403 q x eh2 gg
     have bQ3:=cv2.aK8 q x gg
     clear q x gg
     obtain⟨p3,q3,rfl,_,_⟩:=(bQ3.fm _ rfl).form
     refine hK.out _ _ (eh2) (fun F9=> ?_)
     clear hK K F8
     (try simp only[Act.put,fe7,ff1,ff2])
     refine hdR 7 [11] (fun K hK=> ?_) ?_
     ·refine P7 (w0:=w) (H0:=H) ag8 rfl _ _ rfl bQ3.x rfl (bQ3.fn _ rfl) rfl ay6 hbI.out.1 hbI.out.2 ?_
      intro v7 w_4037 q x dY0 gg
      have dj3:=bQ3.ay7 q x gg
      clear q x gg
      obtain⟨p7,q7,rfl,_,_⟩:=(dj3.fn _ rfl).form
      refine hK.out _ _ (dY0) (fun I7=> ?_)
      clear hK K F9
      refine hdA 10 ?_
      (try simp only[Act.put,fe7,ff1,ff2])
      refine hdR 11 [] (fun K hK=> ?_) r9.nil
      go_simp
      have bX4:=dj3.aR0
      have dK6:=bX4.x.holds
      generalize World.alloc w_4037 (.cells #[.slice none 0 0,.slice none 0 0,.slice none 0 0,.int .i64 0] 30)=eB9 at*
      generalize(World.heap w_4037).size=X at*
      refine hK.out _ _ (dK6) (fun aa1=> ?_)
      clear hK K I7
      (try simp only[Act.put,fe7,ff1,ff2])
      refine G9 (by kernel_rfl) ?_
      simp only[ff5,ff6]
      have hX:=(bX4.fx _ rfl).1
      have m0:=hX.cell 0
      have m1:=hX.cell 1
      have m2:=hX.cell 2
      have m3:=hX.cell 3
      have mf:=hX.fz
      simp at m0 m1 m2 m3
      go_wp2_with fail
      go_meet
      exact bX4.fin _
     refine r9.cons (by simp only[ff0,fe9,fe8]<;>rfl) (fun K hK=> ?_) ?_
     ·go_simp
      have bQ4:=bQ3.aR0
      have dY1:=bQ4.x.holds
      generalize World.alloc w_403 (.cells #[.slice none 0 0,.slice none 0 0,.slice none 0 0,.int .i64 0] 30)=eL6 at*
      generalize(World.heap w_403).size=X at*
      refine hK.out _ _ (dY1) (fun I7=> ?_)
      clear hK K F9
      (try simp only[Act.put,fe7,ff1,ff2])
      refine hdR 7 [] (fun K hK=> ?_) r9.nil
      refine P7 (w0:=w) (H0:=H) ag8 rfl _ _ rfl bQ4.x rfl (bQ4.fn _ rfl) rfl ay6 hbI.out.1 hbI.out.2 ?_
      intro v7 eC0 q x dK7 gg
      have bX5:=bQ4.ay7 q x gg
      clear q x gg
      obtain⟨p7,q7,rfl,_,_⟩:=(bX5.fn _ rfl).form
      refine hK.out _ _ (dK7) (fun aa1=> ?_)
      clear hK K I7
      refine hdA 10 ?_
      (try simp only[Act.put,fe7,ff1,ff2])
      refine G9 (by kernel_rfl) ?_
      simp only[ff5,ff6]
      have hX:=(bX5.fx _ rfl).1
      have m0:=hX.cell 0
      have m1:=hX.cell 1
      have m2:=hX.cell 2
      have m3:=hX.cell 3
      have mf:=hX.fz
      simp at m0 m1 m2 m3
      go_wp2_with fail
      go_meet
      exact bX5.fin _
     exact r9.nil
    refine r9.cons (by simp only[ff0,fe9,fe8]<;>rfl) (fun K hK=> ?_) ?_
    ·go_simp
     have ci1:=cv2.aR0
     have eh3:=ci1.x.holds
     generalize World.alloc w_40 (.cells #[.slice none 0 0,.slice none 0 0,.slice none 0 0,.int .i64 0] 30)=eR3 at*
     generalize(World.heap w_40).size=X at*
     refine hK.out _ _ (eh3) (fun F9=> ?_)
     clear hK K F8
     (try simp only[Act.put,fe7,ff1,ff2])
     refine hdR 3 [] (fun K hK=> ?_) r9.nil
     refine P7 (w0:=w) (H0:=H) aQ1 rfl _ _ rfl ci1.x rfl (ci1.fm _ rfl) rfl aH7 hbM.out.1 hbM.out.2 ?_
     intro v3 eL7 q x dY2 gg
     have bQ5:=ci1.aK8 q x gg
     clear q x gg
     obtain⟨p3,q3,rfl,_,_⟩:=(bQ5.fm _ rfl).form
     refine hK.out _ _ (dY2) (fun I7=> ?_)
     clear hK K F9
     (try simp only[Act.put,fe7,ff1,ff2])
     refine hdR 7 [] (fun K hK=> ?_) r9.nil
     refine P7 (w0:=w) (H0:=H) ag8 rfl _ _ rfl bQ5.x rfl (bQ5.fn _ rfl) rfl ay6 hbI.out.1 hbI.out.2 ?_
     intro v7 eC1 q x dK8 gg
     have bX6:=bQ5.ay7 q x gg
     clear q x gg
     obtain⟨p7,q7,rfl,_,_⟩:=(bX6.fn _ rfl).form
     refine hK.out _ _ (dK8) (fun aa1=> ?_)
     clear hK K I7
     refine hdA 10 ?_
     (try simp only[Act.put,fe7,ff1,ff2])
     refine G9 (by kernel_rfl) ?_
     simp only[ff5,ff6]
     have hX:=(bX6.fx _ rfl).1
     have m0:=hX.cell 0
     have m1:=hX.cell 1
     have m2:=hX.cell 2
     have m3:=hX.cell 3
     have mf:=hX.fz
     simp at m0 m1 m2 m3
     go_wp2_with fail
     go_meet
     exact bX6.fin _
    exact r9.nil
   refine r9.cons (by simp only[ff0,fe9,fe8]<;>rfl) (fun K hK=> ?_) ?_
   ·go_simp
    have dY3:=c_4.aR0
    have ey5:=dY3.x.holds
    generalize World.alloc w_4 (.cells #[.slice none 0 0,.slice none 0 0,.slice none 0 0,.int .i64 0] 30)=dY4 at*
    generalize(World.heap w_4).size=X at*
    refine hK.out _ _ (ey5) (fun F8=> ?_)
    clear hK K I4
    (try simp only[Act.put,fe7,ff1,ff2])
    refine hdR 0 [] (fun K hK=> ?_) r9.nil
    go_simp
    have ci2:=dY3.allM
    have eh4:=ci2.x.holds
    generalize World.alloc dY4 (.cells #[] 96)=eR4 at*
    generalize(World.heap dY4).size=g0 at*
    refine hK.out _ _ (eh4) (fun F9=> ?_)
    clear hK K F8
    (try simp only[Act.put,fe7,ff1,ff2])
    refine hdR 3 [] (fun K hK=> ?_) r9.nil
    refine P7 (w0:=w) (H0:=H) aQ1 rfl _ _ rfl ci2.x rfl (ci2.fm _ rfl) rfl aH7 hbM.out.1 hbM.out.2 ?_
    intro v3 eL8 q x dY5 gg
    have bQ6:=ci2.aK8 q x gg
    clear q x gg
    obtain⟨p3,q3,rfl,_,_⟩:=(bQ6.fm _ rfl).form
    refine hK.out _ _ (dY5) (fun I7=> ?_)
    clear hK K F9
    (try simp only[Act.put,fe7,ff1,ff2])
    refine hdR 7 [] (fun K hK=> ?_) r9.nil
    refine P7 (w0:=w) (H0:=H) ag8 rfl _ _ rfl bQ6.x rfl (bQ6.fn _ rfl) rfl ay6 hbI.out.1 hbI.out.2 ?_
    intro v7 eC2 q x dK9 gg
    have bX7:=bQ6.ay7 q x gg
    clear q x gg
    obtain⟨p7,q7,rfl,_,_⟩:=(bX7.fn _ rfl).form
    refine hK.out _ _ (dK9) (fun aa1=> ?_)
    clear hK K I7
    refine hdA 10 ?_
    (try simp only[Act.put,fe7,ff1,ff2])
    refine G9 (by kernel_rfl) ?_
    simp only[ff5,ff6]
    have hX:=(bX7.fx _ rfl).1
    have m0:=hX.cell 0
    have m1:=hX.cell 1
    have m2:=hX.cell 2
    have m3:=hX.cell 3
    have mf:=hX.fz
    simp at m0 m1 m2 m3
    go_wp2_with fail
    go_meet
    exact bX7.fin _
   exact r9.nil
  refine r9.cons (by simp only[ff0,fe9,fe8]<;>rfl) (fun K hK=> ?_) ?_
  ·go_simp
   have c_b:=cB.aR0
   have k_b:=c_b.x.holds
   generalize World.alloc wB (.cells #[.slice none 0 0,.slice none 0 0,.slice none 0 0,.int .i64 0] 30)=w_b at*
   generalize(World.heap wB).size=X at*
   refine hK.out _ _ (k_b) (fun I4=> ?_)
   clear hK K N9
   (try simp only[Act.put,fe7,ff1,ff2])
   refine hdR 0 [4] (fun K hK=> ?_) ?_
   ·go_simp
    have cv3:=c_b.allM
    have ey6:=cv3.x.holds
    generalize World.alloc w_b (.cells #[] 96)=dY7 at*
    generalize(World.heap w_b).size=g0 at*
    refine hK.out _ _ (ey6) (fun F8=> ?_)
    clear hK K I4
    (try simp only[Act.put,fe7,ff1,ff2])
    refine hdR 3 [4] (fun K hK=> ?_) ?_
    ·refine P7 (w0:=w) (H0:=H) aQ1 rfl _ _ rfl cv3.x rfl (cv3.fm _ rfl) rfl aH7 hbM.out.1 hbM.out.2 ?_
     intro v3 dD1 q x eh5 gg
     have dD2:=cv3.aK8 q x gg
     clear q x gg
     obtain⟨p3,q3,rfl,_,_⟩:=(dD2.fm _ rfl).form
     refine hK.out _ _ (eh5) (fun F9=> ?_)
     clear hK K F8
     (try simp only[Act.put,fe7,ff1,ff2])
     refine hdR 4 [] (fun K hK=> ?_) r9.nil
     go_simp
     have bQ7:=dD2.bn4
     have dY8:=bQ7.x.holds
     generalize World.alloc dD1 (.cells #[] 3)=eM0 at*
     generalize(World.heap dD1).size=g4 at*
     refine hK.out _ _ (dY8) (fun I7=> ?_)
     clear hK K F9
     (try simp only[Act.put,fe7,ff1,ff2])
     refine hdR 7 [] (fun K hK=> ?_) r9.nil
     refine P7 (w0:=w) (H0:=H) ag8 rfl _ _ rfl bQ7.x rfl (bQ7.fn _ rfl) rfl ay6 hbI.out.1 hbI.out.2 ?_
     intro v7 eC3 q x dL0 gg
     have bX8:=bQ7.ay7 q x gg
     clear q x gg
     obtain⟨p7,q7,rfl,_,_⟩:=(bX8.fn _ rfl).form
     refine hK.out _ _ (dL0) (fun aa1=> ?_)
     clear hK K I7
     refine hdA 10 ?_
     (try simp only[Act.put,fe7,ff1,ff2])
     refine G9 (by kernel_rfl) ?_
     simp only[ff5,ff6]
     have hX:=(bX8.fx _ rfl).1
     have m0:=hX.cell 0
     have m1:=hX.cell 1
     have m2:=hX.cell 2
     have m3:=hX.cell 3
     have mf:=hX.fz
     simp at m0 m1 m2 m3
     go_wp2_with fail
     go_meet
     exact bX8.fin _
    refine r9.cons (by simp only[ff0,fe9,fe8]<;>rfl) (fun K hK=> ?_) ?_
    ·go_simp
     have ci3:=cv3.bn4
     have eh6:=ci3.x.holds
     generalize World.alloc dY7 (.cells #[] 3)=eR6 at*
     generalize(World.heap dY7).size=g4 at*
     refine hK.out _ _ (eh6) (fun F9=> ?_)
     clear hK K F8
     (try simp only[Act.put,fe7,ff1,ff2])
     refine hdR 3 [] (fun K hK=> ?_) r9.nil
     refine P7 (w0:=w) (H0:=H) aQ1 rfl _ _ rfl ci3.x rfl (ci3.fm _ rfl) rfl aH7 hbM.out.1 hbM.out.2 ?_
     intro v3 eM1 q x dY9 gg
     have bQ8:=ci3.aK8 q x gg
     clear q x gg
     obtain⟨p3,q3,rfl,_,_⟩:=(bQ8.fm _ rfl).form
     refine hK.out _ _ (dY9) (fun I7=> ?_)
     clear hK K F9
     (try simp only[Act.put,fe7,ff1,ff2])
     refine hdR 7 [] (fun K hK=> ?_) r9.nil
     refine P7 (w0:=w) (H0:=H) ag8 rfl _ _ rfl bQ8.x rfl (bQ8.fn _ rfl) rfl ay6 hbI.out.1 hbI.out.2 ?_
     intro v7 eC4 q x dL1 gg
     have bX9:=bQ8.ay7 q x gg
     clear q x gg
     obtain⟨p7,q7,rfl,_,_⟩:=(bX9.fn _ rfl).form
     refine hK.out _ _ (dL1) (fun aa1=> ?_)
     clear hK K I7
     refine hdA 10 ?_
     (try simp only[Act.put,fe7,ff1,ff2])
     refine G9 (by kernel_rfl) ?_
     simp only[ff5,ff6]
     have hX:=(bX9.fx _ rfl).1
     have m0:=hX.cell 0
     have m1:=hX.cell 1
     have m2:=hX.cell 2
     have m3:=hX.cell 3
     have mf:=hX.fz
     simp at m0 m1 m2 m3
     go_wp2_with fail
     go_meet
     exact bX9.fin _
    exact r9.nil
   refine r9.cons (by simp only[ff0,fe9,fe8]<;>rfl) (fun K hK=> ?_) ?_
   ·go_simp
    have dZ0:=c_b.bn4
    have ey7:=dZ0.x.holds
    generalize World.alloc w_b (.cells #[] 3)=dZ1 at*
    generalize(World.heap w_b).size=g4 at*
    refine hK.out _ _ (ey7) (fun F8=> ?_)
    clear hK K I4
    (try simp only[Act.put,fe7,ff1,ff2])
    refine hdR 0 [] (fun K hK=> ?_) r9.nil
    go_simp
    have ci4:=dZ0.allM
    have eh7:=ci4.x.holds
    generalize World.alloc dZ1 (.cells #[] 96)=eR7 at*
    generalize(World.heap dZ1).size=g0 at*
    refine hK.out _ _ (eh7) (fun F9=> ?_)
    clear hK K F8
    (try simp only[Act.put,fe7,ff1,ff2])
    refine hdR 3 [] (fun K hK=> ?_) r9.nil
    refine P7 (w0:=w) (H0:=H) aQ1 rfl _ _ rfl ci4.x rfl (ci4.fm _ rfl) rfl aH7 hbM.out.1 hbM.out.2 ?_
    intro v3 eM2 q x dZ2 gg
    have bQ9:=ci4.aK8 q x gg
    clear q x gg
    obtain⟨p3,q3,rfl,_,_⟩:=(bQ9.fm _ rfl).form
    refine hK.out _ _ (dZ2) (fun I7=> ?_)
    clear hK K F9
    (try simp only[Act.put,fe7,ff1,ff2])
    refine hdR 7 [] (fun K hK=> ?_) r9.nil
    refine P7 (w0:=w) (H0:=H) ag8 rfl _ _ rfl bQ9.x rfl (bQ9.fn _ rfl) rfl ay6 hbI.out.1 hbI.out.2 ?_
    intro v7 eC5 q x dL2 gg
    have bY0:=bQ9.ay7 q x gg
    clear q x gg
    obtain⟨p7,q7,rfl,_,_⟩:=(bY0.fn _ rfl).form
    refine hK.out _ _ (dL2) (fun aa1=> ?_)
    clear hK K I7
    refine hdA 10 ?_
    (try simp only[Act.put,fe7,ff1,ff2])
    refine G9 (by kernel_rfl) ?_
    simp only[ff5,ff6]
    have hX:=(bY0.fx _ rfl).1
    have m0:=hX.cell 0
    have m1:=hX.cell 1
    have m2:=hX.cell 2
    have m3:=hX.cell 3
    have mf:=hX.fz
    simp at m0 m1 m2 m3
    go_wp2_with fail
    go_meet
    exact bY0.fin _
   exact r9.nil
  exact r9.nil
 case rest=>
  obtain⟨X,vm9,va9,Hx,rfl,cX,cR,hRX,hlx,sm9,sa9,hfr⟩:=hcut
  obtain⟨p9,q9,rfl,_,_⟩:=sm9.form
  obtain⟨p8',q8',rfl,_,_⟩:=sa9.form
  replace hc1:=lift hlx hc1
  replace bV8:=bV8.mono hlx
  have hcx:=cX.x.holds
  clear xA hwA hbM hbI aH7 ay6
  go_wp2_with fail
  go_loopw [4] (fun i wr=>∃(k:Nat) (Hr:j5) (v:Value),k≤s.wo.length∧i= .int .i64 (k:Int)∧D8 Hx Hr∧J4 w H X 30 wr Hr #[.slice p9 s.mo.length q9,v,.slice p8' s.wa.length q8',.int .i64 s.fr]∧J4 w H R 30 wr Hr #[.slice none 0 0,.slice none 0 0,.slice none 0 0,.int .i64 0]∧Own Hr w.heap.size wr 24 v (s.wo.take k)) (fun i _=>s.wo.length-(intOf i).toNat)
  case atStart=>exact⟨0,Hx,_,fh3 _,rfl,D8.refl _,cX,cR,Own.nil _ _ _ _⟩
  case round=>
   clear cX cR hcx
   obtain⟨k,Hr,v,hk,rfl,hlr,cX,cR,oo⟩:=hrel
   have hk0:(0:Int)≤(k:Int):=by omega
   have xr:=cX.x
   have hwr:=xr.holds
   have dZ3:=lift hlr hc1
   by_cases hlk:k<s.wo.length
   ·obtain⟨x,hx⟩:=At.mk hlk
    have hk1:(k:Int)<(s.wo.length:Int):=by omega
    have eV7:k<s.wo.length:=hlk
    have dZ4:=bV8.mono hlr
    obtain⟨bb,ob,cb,ds,hbe,hds,hcc⟩:=dZ4.get hx
    cases hbe
    obtain⟨vk,rfl,hxs⟩:∃vk,ds=[vk]∧Sl Hr vk x:=hds
    have hxl:=hl4 x hx.mem
    obtain⟨ak,ck,rfl,_,_⟩:=hxs.form
    have hck:∀W,j4 Hr W→W.cell? ⟨bb,ob+k,none⟩=some (.slice ak x.length ck):=fun W hW=>by have:=hcc W hW 0 _ rfl;simpa [Enc.sz]using this
    obtain⟨HS,hwS,leS,hSX,hSo⟩:=cX.put
    have f1:∀W,j4 HS W→W.cell? ⟨X,1,none⟩=some v:=fun W h=>D7 hSX h 1
    have eV8:=lift leS hck
    have eV9:=lift leS dZ3
    have htl:(s.wo.take k).length=k:=by rw[fg6];omega
    have hoS:∀q,v.ownBlock=some q→HS q=none:=fun q e=>by
     rw[hSo q (fun e'=>oo.P8 cX.at_ (by decide) (by rw[e,e']))];exact oo.free q e
    obtain⟨pv,qv,ev,_,_⟩:=oo.form
    rw[htl]at ev
    subst ev
    have hbX:Hid ((([]:List Int).length+x.length)*Enc.M4 Int≤140737488355328∧([]:List Int).length+x.length≤9223372036854775807):=by show(0+_)*8≤_∧0+_≤_;omega
    have hbL:Hid (((s.wo.take k).length+1)*Enc.M4 (List Int)≤140737488355328∧(s.wo.take k).length+1≤9223372036854775807):=by show(_+1)*24≤_∧_+1≤_;omega
    clear hcc hck dZ3 dZ4
    replace htl:=fe6 htl
    replace hxl:=fe6 hxl
    go_upto_region 5 with fail
    refine U1 (S:=(fun w'=>j4 HS w')) 11 (by kernel_rfl) (by kernel_rfl) ?_ (fun N9=> ?_)
    ·(try dsimp only)
     (first|assumption|exact j4.drew ‹_›|exact j4.alloc ‹_› _)
    simp only[ff8,fg1,fh6,fh7,fg9,fg8,fg3,ff9,fg2]
    have xB:=xr.drew
    have ooB:=oo.drew
    have cXB:=cX.drew
    have cRB:=cR.drew
    have dZ6:=hwS.drew
    generalize World.drew wr=wB at*
    refine hdA 0 ?_
    refine hdA 1 ?_
    refine hdA 3 ?_
    refine hdA 4 ?_
    refine hdA 5 ?_
    refine hdA 6 ?_
    refine hdA 7 ?_
    (try simp only[Act.put,fe7,ff1,ff2])
    refine hdR 2 [] (fun K hK=> ?_) r9.nil
    go_simp
    have x2:=xB.alloc (.cells #[] 3)
    have oE:Own Hr w.heap.size (World.alloc wB (.cells #[] 3)) 3 (.slice (some ⟨(World.heap wB).size,0,none⟩) 0 0) ([]:List Int):=Own.emptyAt (heap_alloc_new _ _) xB.below.size (xB.holds.D6 (fh0 _))
    have oo2:=ooB.alloc (.cells #[] 3)
    have cX2:=cXB.alloc (.cells #[] 3)
    have cR2:=cRB.alloc (.cells #[] 3)
    have kS2:=dZ6.alloc (.cells #[] 3)
    have hgS:HS (World.heap wB).size=none:=dZ6.D6 (fh0 _)
    generalize World.alloc wB (.cells #[] 3)=w2 at*
    generalize(World.heap wB).size=g2 at*
    refine hK.out _ _ (kS2) (fun I4=> ?_)
    clear hK K N9
    (try simp only[Act.put,fe7,ff1,ff2])
    refine hdR 8 [] (fun K hK=> ?_) r9.nil
    refine P7 (w0:=w) (H0:=H) ag8 rfl _ _ rfl x2 rfl oE rfl hxs hbX.out.1 hbX.out.2 ?_
    intro v8 w8 o8 x8 hw8 gg8
    rw[ff9]at o8
    have oo8:=oo2.bW5 gg8 (fun q e1 e2=>by obtain⟨c9,e9⟩:=oo2.X7 e1;exact oE.P8 e9 (by decide) e2)
    have cX8:=cX2.bg8 gg8 (oE.P8 cX2.at_ (by decide)) (fun q e=>(oE.lt q e).1) oE.free
    have cR8:=cR2.bg8 gg8 (oE.P8 cR2.at_ (by decide)) (fun q e=>(oE.lt q e).1) oE.free
    have kS8:j4 HS w8:=kS2.grown gg8 (fun q e=>by cases e;exact hgS)
    obtain⟨p8,q8,rfl,_,_⟩:=o8.form
    obtain⟨H9,x9,l9,s9,n9⟩:=o8.close x8
    have oo9:=oo8.bz5 l9 (fun b hb=>(n9 b (fun e=>by obtain⟨c9,e9⟩:=oo8.X7 hb;exact o8.P8 e9 (by decide) e)).trans (oo8.free b hb))
    have hX9:H9 X=none:=(n9 X (o8.P8 cX8.at_ (by decide))).trans cX8.oH
    have hR9:H9 R=none:=(n9 R (o8.P8 cR8.at_ (by decide))).trans cR8.oH
    refine hK.out _ _ (kS8) (fun F8=> ?_)
    clear hK K I4
    (try simp only[Act.put,fe7,ff1,ff2])
    refine hdR 9 [] (fun K hK=> ?_) r9.nil
    go_simp
    have x10:=x9.alloc (.cells #[.slice p8 x.length q8] 24)
    have dZ8:=kS8.alloc (.cells #[.slice p8 x.length q8] 24)
    have cv5:=oo9.alloc (.cells #[.slice p8 x.length q8] 24)
    have dw5:=(heap_alloc_old w8 (.cells #[.slice p8 x.length q8] 24) cX8.lt).trans cX8.at_
    have dw6:=(heap_alloc_old w8 (.cells #[.slice p8 x.length q8] 24) cR8.lt).trans cR8.at_
    have ey8:(World.alloc w8 (.cells #[.slice p8 x.length q8] 24)).cell? ⟨w8.heap.size,0,none⟩=some (.slice p8 x.length q8):=by rw[Lib.cell_of_heap (heap_alloc_new w8 _)];rfl
    generalize World.alloc w8 (.cells #[.slice p8 x.length q8] 24)=w10 at*
    generalize w8.heap.size=g9 at*
    refine hK.out _ _ (dZ8) (fun F9=> ?_)
    clear hK K F8
    (try simp only[Act.put,fe7,ff1,ff2])
    refine hdR 10 [] (fun K hK=> ?_) r9.nil
    refine aY8 (H:=H9) (base:=w.heap.size) (x:=x) eLI rfl _ _ rfl rfl cv5 rfl (show Enc.rep H9 x [.slice p8 x.length q8]from⟨_,rfl,s9⟩) (by intro j' u hu;match j',hu with|0,hu=>(simp at hu;subst hu;exact ey8)|n+1,hu=>simp at hu) x10.holds hbL.out.1 hbL.out.2 x10.below.size ?_
    intro v11 w11 o11 cV3 dZ9 _
    have ey9:j4 HS w11:=dZ8.grown cV3 (fun q e=>hoS q e)
    have x11:=x10.grown cV3 (fun q e=>(cv5.lt q e).1) cv5.free
    have bY1:J4 w H X 30 w11 H9 #[.slice p9 s.mo.length q9,.slice pv k qv,.slice p8' s.wa.length q8',.int .i64 s.fr]:=⟨x11,(cV3.block X (by have:=(Array.getElem?_eq_some_iff.1 dw5).1;exact this) (fun e=>cv5.P8 dw5 (by decide) e.symm)).trans dw5,cX8.ob,hX9⟩
    have ez0:J4 w H R 30 w11 H9 #[.slice none 0 0,.slice none 0 0,.slice none 0 0,.int .i64 0]:=⟨x11,(cV3.block R (by have:=(Array.getElem?_eq_some_iff.1 dw6).1;exact this) (fun e=>cv5.P8 dw6 (by decide) e.symm)).trans dw6,cR8.ob,hR9⟩
    refine hK.out _ _ (ey9) (fun I7=> ?_)
    clear hK K F9
    (try simp only[Act.put,fe7,ff1,ff2])
    refine G9 (by kernel_rfl) ?_
    simp only[ff5,ff6]
    obtain⟨p11,q11,e11,_,_⟩:=o11.form
    rw[show(s.wo.take k++[x]).length=k+1 by rw[ff4,htl.out];rfl]at e11
    subst e11
    have m1:=bY1.cell 1
    have mf:=bY1.fz
    simp at m1
    have ez1:=o11.P8 bY1.at_ (by decide)
    have ea0:=bY1.set 1 (.slice p11 (k+1) q11)
    have ez2:=ez0.off (a:=⟨X,1,none⟩) bY1.ob bY1.oH (Ne.symm hRX) (.slice p11 (k+1) q11)
    have o12:=o11.setCell (a:=⟨X,1,none⟩) ez1 (.slice p11 (k+1) q11)
    simp only[fe7,ff1,ff2]at ea0
    go_wp2_with fail
    go_roundw
    case rel=>exact⟨k+1,H9,_,hlk,by go_num,hlr.trans l9,ea0,ez2,by rw[hx.take];exact o12⟩
    case measure=>simp[intOf];omega
   ·have hke:k=s.wo.length:=by omega
    have hk1:¬(k:Int)<(s.wo.length:Int):=by omega
    rw[hke,List.take_length]at oo
    obtain⟨pv,qv,rfl,_,_⟩:=oo.form
    have hoX:=oo.P8 cX.at_ (by decide)
    have hoR:=oo.P8 cR.at_ (by decide)
    have d0:=cX.cell 0
    have d1:=cX.cell 1
    have d2:=cX.cell 2
    have d3:=cX.cell 3
    have e0:=cR.cell 0
    have e1:=cR.cell 1
    have e2:=cR.cell 2
    have e3:=cR.cell 3
    have ef:=cR.fz
    simp at d0 d1 d2 d3 e0 e1 e2 e3
    have c9:=(((cR.set 0 (.slice p9 s.mo.length q9)).set 1 (.slice pv s.wo.length qv)).set 2 (.slice p8' s.wa.length q8')).set 3 (.int .i64 s.fr)
    have o9:=(((oo.setCell (a:=⟨R,0,none⟩) hoR (.slice p9 s.mo.length q9)).setCell (a:=⟨R,1,none⟩) hoR (.slice pv s.wo.length qv)).setCell (a:=⟨R,2,none⟩) hoR (.slice p8' s.wa.length q8')).setCell (a:=⟨R,3,none⟩) hoR (.int .i64 s.fr)
    simp only[fe7,ff1,ff2]at c9
    obtain⟨H9,x9,l9,s9,_⟩:=o9.close c9.x
    have eW0:(s.wo.take s.wo.length).length=s.wo.length:=by rw[List.take_length]
    go_wp2_with fail
    refine bodyPost_ret (results_cell_row rfl _ _ R 30 _ (0,0) _ rfl c9.at_ Tryz.underlying30 rfl (by kernel_rfl)) rfl ?_
    exact⟨_,H9,rfl,x9,_,_,_,rfl,⟨sm9.mono (hlr.trans l9),s9,sa9.mono (hlr.trans l9),hI⟩,fun hne b hb=>let ⟨h1,cur,e,h2⟩:=hfr.out hne b hb;⟨h1,cur,e,(hlr.trans l9) _ _ h2⟩⟩
theorem dj4 (vm vo va:Value) (s:G5) (hl:s.mo.length≤100000∧s.wo.length≤100000∧s.wa.length≤100000∧∀x∈s.wo,x.length≤100000) (H:j5) (w:World) (hw:j4 H w) (hs:Sho H vm vo va s):
 Calls Tryz.prog 73 #[aq3 vm vo va s] w (Post w H fun u H'=>∃um uo ua,u=aq3 um uo ua s∧Sho H' um uo ua s):=
 (ce2 vm vo va s hl H w hw hs).mono fun _ _ ⟨v,H',a,b,um,uo,ua,c,d,_⟩=>⟨v,H',a,b,um,uo,ua,c,d⟩
end
end Go.Proofs.YtbliehinagkldaaGreatDoor
