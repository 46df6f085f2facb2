/- Lemmas and walks on which the claims of this seat lean (names and blanks made short by a program): OOpen OPlates ONew OLeft OAskB OTest. -/
import Derived.Test.YtbliehinagkldaaGreatDoorG02
import Derived.Test.YtbliehinagkldaaGreatDoorG03
import Derived.Test.YtbliehinagkldaaGreatDoorG04
import Derived.Test.YtbliehinagkldaaGreatDoorG05
import Derived.Test.YtbliehinagkldaaGreatDoorG06
import Derived.Test.YtbliehinagkldaaGreatDoorG07

set_option linter.all false
set_option maxRecDepth 100000
set_option maxHeartbeats 16000000
open Go.Lib renaming hid → fe6
open List renaming setIfInBounds_toArray → fe7, getElem?_toArray → ff0, set_cons_zero → ff1, set_cons_succ → ff2, getD_eq_getElem?_getD → ff3, length_append → ff4, drop_succ_cons → ff5, drop_zero → ff6, length_singleton → ff7, length_cons → ff8, nil_append → ff9, getElem?_eq_getElem → fg0, length_nil → fg1, cons_append → fg2, push_toArray → fg3, length_map → fg5, length_take → fg6
open Array renaming replicate_zero → fg8, replicate_succ → fg9
open Nat renaming le_refl → fh0, zero_le → fh3, lt_of_lt_of_le → fh4, reduceAdd → fh6, reduceSub → fh7
open Int renaming toNat_natCast → fh8
open Bool renaming and_eq_true → fh9
namespace Go.Proofs.YtbliehinagkldaaGreatDoor
section
open Go.RowKit
attribute [local go_sem] j4.drew j4.alloc j4.drewN WB.holds Oper.semAt_some Q9 O1 J7
theorem be3 {s:G5} {is:Bool} {e:Int} {H':j5} (h:aa9 s is=e) (hne:e≠0):aq7 s is (.tuple #[.pointer none,.int .i64 e]) H':=by
 unfold aq7
 rw[h,if_neg hne]
theorem cs7 {s:G5} {is:Bool} {H':j5} {S:Nat} {vm vo va wv:Value} (h:aa9 s is=0) (o:OpenAt H' S vm vo va wv s):aq7 s is (.tuple #[.pointer (some ⟨S,0,none⟩),.int .i64 0]) H':=by
 unfold aq7
 rw[if_pos h]
 exact⟨S,vm,vo,va,wv,rfl,o⟩
theorem df8 (s:G5):av9 s []=[0,0,0,0,0]:=by
 unfold av9 five
 simp[al0,List.range,List.range.loop]
theorem cT0 {l:List Int} (h:l.length=5):∃a b c d e,l=[a,b,c,d,e]:=by
 match l,h with
 |[a,b,c,d,e],_=>exact⟨a,b,c,d,e,rfl⟩
theorem cT1 {s:G5} (v:Y0 s) {k:Nat} {x:List Int} (hk:At s.wo k x) {t:Nat} (ht:t≤s.mo.length):∀y∈aa6 s k t,-12≤y∧y≤12:=by
 intro y hy
 unfold aa6 five at hy
 obtain⟨i,_,rfl⟩:=List.mem_map.1 hy
 split
 ·rename_i hi
  have hl:=v.cL5 hk
  obtain⟨m,hm⟩:=At.mk (show i<s.mo.length by omega)
  obtain⟨n,hn⟩:=At.mk (show i<x.length by omega)
  have h1:=v.mbd hm
  have h2:=v.wbd hk hn
  unfold O7
  rw[ck8 hk,be9 hm,hn.getD]
  omega
 ·omega
structure bl8 (w0:World) (H0:j5) (S:Nat) (vm vo va:Value) (s:G5) (Hc:j5) (pre:List Nat) (W:World):Prop where
 x:Ext w0 H0 W Hc
 n:Hc S=none
 b:w0.heap.size≤S
 r:∃wv,ae8 S W vm vo va s.fr wv (av9 s pre)∧Own Hc w0.heap.size W 110 wv (pre.map (ak0 s))
theorem bl8.abides {n0:Nat} {w0:World} {H0:j5} {S:Nat} {vm vo va:Value} {s:G5} (hn:w0.heap.size≤n0):Abides n0 (bl8 w0 H0 S vm vo va s):=fun Hc pre W Hc' W' h hh ht=>by
 obtain⟨wv,h1,h2⟩:=h.r
 obtain⟨h3,h4⟩:=h1.turn h.n ht
 obtain⟨h5,h6⟩:=h2.turn h2.free ht
 exact⟨ht.an1 h.x hn,h4,h.b,wv,h3,h5.df6 h6⟩
theorem bI7 (vm vo va:Value) (s:G5) (is:Bool) (H:j5) (w:World) (hw:j4 H w) (hs:Sho H vm vo va s):
 Calls Tryz.prog 58 #[aq3 vm vo va s,.bool is] w (Post w H (aq7 s is)):=by
 refine Calls.aw5 (r:=none) (n:=3) (callsIn_of_wp_marks Tryz.func58 rfl trivial (wpIn_wide.2 ?_) rfl)
 simp only[Tryz.ntmps58,List.size_toArray,ff8,fg1,fh6,fh7,fg9,fg8,fg3,List.append_toArray,ff9,fg2]
 have cF:=fun(H1:j5) (W:World) (hW:j4 H1 W) (hle:D8 H H1)=>bi5 vm vo va s H1 W hW (hs.mono hle)
 cases hv:Y5 s
 ·rw[hv]at cF
  replace cF:=fe6 cF
  have hE:Hid (aa9 s is=20):=by show _=_;unfold aa9;rw[hv];rfl
  go_upto_region 1 with(refine af8 rfl _ rfl (Ext.refl hw) ?_;intro B w1 H1 hle hx hB hBw;obtain⟨hc0,hc1,hc2,hc3⟩:=V6 hB;clear hB hw;have hw1:=hx.holds)
  go_wp2_with(first|(go_at_call 69;refine(cF.out _ _ hw1 hle).mono ?_;rintro e w' ⟨rfl,hb2⟩;have hx2:=hx.step (hb2.mono hx.below.size) (hw1.below hb2)))
  refine⟨_,results_tmp2 rfl _ _ _, ?_⟩
  exact⟨_,H1,rfl,hx2,be3 hE.out (by decide)⟩
 ·rw[hv]at cF
  replace cF:=fe6 cF
  have vv:=aj5.1 hv
  cases is
  ·have hE:Hid (aa9 s false=1):=by show _=_;unfold aa9;rw[hv];rfl
   clear hv
   go_upto_region 1 with(refine af8 rfl _ rfl (Ext.refl hw) ?_;intro B w1 H1 hle hx hB hBw;obtain⟨hc0,hc1,hc2,hc3⟩:=V6 hB;clear hB hw;have hw1:=hx.holds)
   go_wp2_with(first|(go_at_call 69;refine(cF.out _ _ hw1 hle).mono ?_;rintro e w' ⟨rfl,hb2⟩;have hx2:=hx.step (hb2.mono hx.below.size) (hw1.below hb2)))
   refine⟨_,results_tmp2 rfl _ _ _, ?_⟩
   exact⟨_,H1,rfl,hx2,be3 hE.out (by decide)⟩
  ·have hE:Hid (aa9 s true=if(F4 s).length=0 then 3 else 0):=by show _=_;unfold aa9;rw[hv];rfl
   clear hv
   have hwk:=fe6 hw
   go_upto_region 1 with(refine af8 rfl _ rfl (Ext.refl hw) ?_;intro B w1 H1 hle hx hB hBw;obtain⟨hc0,hc1,hc2,hc3⟩:=V6 hB;clear hB hw;have hw1:=hx.holds)
   have hs1:=hs.mono hle
   obtain⟨am,cm,rfl,hm1,hm2⟩:=hs1.m.form
   obtain⟨ao,co,rfl,ho1,ho2⟩:=hs1.o.form
   obtain⟨aa,ca,rfl,ha1,ha2⟩:=hs1.a.form
   go_upto_region 6 with(go_at_call 69;refine(cF.out _ _ hw1 hle).mono ?_;rintro e w' ⟨rfl,hb2⟩;have hx2:=hx.step (hb2.mono hx.below.size) (hw1.below hb2);have hw2:=hx2.holds;clear hx hw1)
   go_upto_region 7 with fail
   have h10: #[.slice am s.mo.length cm,.slice ao s.wo.length co,.slice aa s.wa.length ca,.int .i64 s.fr,.slice none 0 0,.int .i64 0,.int .i64 0,.int .i64 0,.int .i64 0,.int .i64 0]=ac5 (.slice am s.mo.length cm) (.slice ao s.wo.length co) (.slice aa s.wa.length ca) s.fr (.slice none 0 0) (av9 s []):=by rw[df8];rfl
   have hr0:ae8 w'.heap.size (w'.alloc (.cells #[.slice am s.mo.length cm,.slice ao s.wo.length co,.slice aa s.wa.length ca,.int .i64 s.fr,.slice none 0 0,.int .i64 0,.int .i64 0,.int .i64 0,.int .i64 0,.int .i64 0] 112)) _ _ _ _ _ _:=⟨(heap_alloc_new w' (.cells #[.slice am s.mo.length cm,.slice ao s.wo.length co,.slice aa s.wa.length ca,.int .i64 s.fr,.slice none 0 0,.int .i64 0,.int .i64 0,.int .i64 0,.int .i64 0,.int .i64 0] 112)).trans (by rw[h10])⟩
   have hSn:=hw2.D6 (fh0 w'.heap.size)
   have hSb:=hx2.below.size
   have hx3:=hx2.alloc (.cells #[.slice am s.mo.length cm,.slice ao s.wo.length co,.slice aa s.wa.length ca,.int .i64 s.fr,.slice none 0 0,.int .i64 0,.int .i64 0,.int .i64 0,.int .i64 0,.int .i64 0] 112)
   obtain⟨x4,l4,hSP⟩:=hx3.newF #[.pointer (some ⟨w'.heap.size,0,none⟩)] 105
   have hr4:=hr0.alloc (.cells #[.pointer (some ⟨w'.heap.size,0,none⟩)] 105)
   have dT5:H1.put (w'.heap.size+1) (.cells #[.pointer (some ⟨w'.heap.size,0,none⟩)] 105 (0,0)) w'.heap.size=none:=by rw[j5.F3 _ _ (by omega)];exact hSn
   rw[World.size_alloc]at x4 l4 hSP
   clear hr0 h10 hx3 hSn hw2 hb2
   generalize H1.put (w'.heap.size+1) (.cells #[.pointer (some ⟨w'.heap.size,0,none⟩)] 105 (0,0))=H4 at*
   generalize(w'.alloc (.cells #[.slice am s.mo.length cm,.slice ao s.wo.length co,.slice aa s.wa.length ca,.int .i64 s.fr,.slice none 0 0,.int .i64 0,.int .i64 0,.int .i64 0,.int .i64 0,.int .i64 0] 112)).alloc (.cells #[.pointer (some ⟨w'.heap.size,0,none⟩)] 105)=w4 at*
   generalize w'.heap.size+1=SP at*
   generalize w'.heap.size=S at*
   have hw4:=x4.holds
   have hs4:=hs1.mono l4
   have g0:=lift l4 hc0
   have g1:=lift l4 hc1
   have g2:=lift l4 hc2
   have g3:=lift l4 hc3
   have gp:=fun W (hW:j4 H4 W)=>D7 hSP hW 0
   simp at gp
   clear hc0 hc1 hc2 hc3 hs1
   go_wp2_with(go_at_call 70;refine(cr8 _ _ _ s vv H4 _ hw4 hs4).mono ?_;rintro e w5 ⟨lb,H5,rfl,x5,hit⟩)
   have hw5:=x5.holds
   have x05:=x4.trans x5
   have l5:=x5.le hw4
   have hJ0:bl8 w H S (.slice am s.mo.length cm) (.slice ao s.wo.length co) (.slice aa s.wa.length ca) s H5 [] w5:=⟨x05,(x5.same S hr4.lt).trans dT5,hSb,_,hr4.below x5.below,Own.nil _ _ _ _⟩
   have hsz5:=x05.below.size
   have hs5:=hs4.mono l5
   replace g0:=lift l5 g0
   replace g1:=lift l5 g1
   replace g2:=lift l5 g2
   replace g3:=lift l5 g3
   replace gp:=lift l5 gp
   clear hs4 hw4 x5 x4 hr4 dT5 hx2
   refine(wpIn_wide (n:=3)).1 (at6 (k:=3) (H:=H5) rfl (enters_of Tryz.func109 (by kernel_rfl) rfl) hw5 hit (fun _ _ _ ⟨_,e,_⟩=>by rw[e];rfl) (fun _ _ _ _ hle ⟨v,e,h⟩=>⟨v,e,h.mono hle⟩)
    (J:=bl8 w H S (.slice am s.mo.length cm) (.slice ao s.wo.length co) (.slice aa s.wa.length ca) s)
    (Jx:=fun _ _ _ _=>False)
    (J2:=fun Hc pre x args a2 W=>bl8 w H S (.slice am s.mo.length cm) (.slice ao s.wo.length co) (.slice aa s.wa.length ca) s Hc pre W∧∃v,args= #[.int .i64 (x:Int),v]∧a2={tmps:= #[aq3 (.slice am s.mo.length cm) (.slice ao s.wo.length co) (.slice aa s.wa.length ca) s,.bool true,.pointer (some ⟨B,0,none⟩),undef,.pointer none,.int .i64 0,.int .i64 (ax6 true),.pointer (some ⟨SP,0,none⟩),undef,v,undef,undef,undef,.agg #[.slice am s.mo.length cm,.slice ao s.wo.length co,.slice aa s.wa.length ca,.int .i64 s.fr],.int .i64 (ax6 true),.int .i64 (ax6 true),.bool (ax6 true != 0),undef,.bool true,.bool false,.agg #[.slice am s.mo.length cm,.slice ao s.wo.length co,.slice aa s.wa.length ca,.int .i64 s.fr],.agg #[.slice am s.mo.length cm,.slice ao s.wo.length co,.slice aa s.wa.length ca,.int .i64 s.fr,.slice none 0 0,.int .i64 0,.int .i64 0,.int .i64 0,.int .i64 0,.int .i64 0],.pointer (some ⟨S,0,none⟩),.agg #[.slice am s.mo.length cm,.slice ao s.wo.length co,.slice aa s.wa.length ca,.int .i64 s.fr],.func (.func 109) #[] lb,.int .i64 (x:Int),v,undef,undef,undef,undef,undef,undef,undef,undef,undef,undef,undef,undef,undef,undef,undef,undef,undef,undef,undef,undef,undef,undef,undef,undef,undef,undef,undef,undef,undef,undef,undef,undef,undef,undef,undef,undef,undef,undef,undef,undef,undef,undef,undef,undef,undef,undef,undef,undef,undef,undef,undef,undef,undef,undef,undef,undef,undef,undef,undef,undef,undef],defers:=[]})
    (bl8.abides hsz5) (fun _ _ _ _ _ _ h _ _=>h) (fun _ _ _=> ?hJ2) hJ0 ?assign ?body ?done ?stop)
   case hJ2=>exact fun _ _ _ _ _ ⟨h1,v,e1,e2⟩ hh ht=>⟨bl8.abides hsz5 _ _ _ _ _ h1 hh ht,v,e1,e2⟩
   case assign=>
    rintro l Hc pre x W args hl hWc K5 hj ⟨p,rfl,hp⟩ hpre
    gi_wp2
    exact⟨hWc,hj,_,rfl,rfl⟩
   case body=>
    rintro l rc Hc pre x args a2 W hl hrc hWc K5 ⟨p,rfl,hp⟩ hpre ⟨hj,p',he,rfl⟩
    obtain rfl:p'=p:=by simp at he;exact he.symm
    clear he
    obtain⟨hxc,hn,hb,wv,hr,ho⟩:=hj
    have hxl:x<s.wo.length:=bN8 (hpre.subset (show x∈pre++[x]by simp))
    have hpl:pre.length≤6:=by
     have h1:=hpre.length_le
     have h2:(F4 s).length≤s.wo.length:=aJ5 s s.wo.length
     have h3:=vv.o6
     simp only[ff4,ff7]at h1
     omega
    clear hpre
    obtain⟨ys,hys⟩:∃ys,Hid (wld s x=ys):=⟨_,rfl⟩
    rw[hys.out]at hp
    have dt9:At s.wo x ys:=by
     have h1:wld s x=s.wo[x]:=by unfold wld;rw[ff3,fg0 hxl];rfl
     rw[hys.out]at h1
     unfold At
     rw[fg0 hxl,h1]
    have dA2:=vv.cL5 dt9
    obtain⟨ap,cp,rfl,_,_⟩:=hp.form
    have dT6:=Row.new (base:=w.heap.size) (t:=110) (xs:=[0,0,0,0,0]) hWc hxc.below.size rfl
    have hxA:=hxc.alloc (.cells (([0,0,0,0,0]:List Int).map (Value.int .i64)).toArray 110)
    have hrA:=hr.alloc (.cells (([0,0,0,0,0]:List Int).map (Value.int .i64)).toArray 110)
    have hoA:=ho.alloc (.cells (([0,0,0,0,0]:List Int).map (Value.int .i64)).toArray 110)
    have hSL:S≠W.heap.size:=by have:=hr.lt;omega
    have cT2:wv.ownBlock≠some W.heap.size:=fun e=>by have:=(ho.lt _ e).2;omega
    obtain⟨aw,cw,rfl,ew1,du0⟩:=ho.form
    have bl9:(pre.map (ak0 s)).length=pre.length:=by rw[fg5]
    rw[bl9]at hr ho ew1 cT2 hrA hoA
    have hSW:(Value.slice aw pre.length cw).ownBlock≠some S:=fun e=>by
     obtain⟨cur,h⟩:=ho.X7 e
     rw[hr.at_]at h
     simp only[Option.some.injEq,Obj.cells.injEq]at h
     exact absurd h.2.1 (by decide)
    simp only[List.map_cons,List.map_nil]at dT6 hxA hrA hoA
    gi_upto_region 10 with fail
    generalize W.alloc (.cells #[.int .i64 0,.int .i64 0,.int .i64 0,.int .i64 0,.int .i64 0] 110)=WA at*
    generalize hLB:W.heap.size=LB at*
    have hWA:=hxA.holds
    have hsc:=hs5.mono K5
    have k0:=lift K5 g0
    have kp:=lift K5 gp
    clear hxc hr ho
    gi_wp2
    gi_loopw [11,12,30] (fun _ _ i wr=>∃(j:Nat),j≤s.mo.length∧i= .int .i64 (j:Int)∧Ext w H wr Hc∧ae8 S wr (.slice am s.mo.length cm) (.slice ao s.wo.length co) (.slice aa s.wa.length ca) s.fr (.slice aw pre.length cw) (ai1 s pre x j)∧Row Hc w.heap.size wr 110 LB (aa6 s x j)∧Own Hc w.heap.size wr 110 (.slice aw pre.length cw) (pre.map (ak0 s))) (fun _ _ i _=>s.mo.length-(intOf i).toNat)
    case atStart=>exact⟨0,fh3 _,rfl,hxA,hrA,dT6,hoA⟩
    case round=>
     obtain⟨j,hj,rfl,E5,hr,hRL,ho⟩:=hrel
     have hwr:=E5.holds
     have hj0:(0:Int)≤(j:Int):=by omega
     by_cases hlk:j<s.mo.length
     ·obtain⟨m,hm⟩:=At.mk hlk
      obtain⟨b,o,c,he,⟨i1,i2,i3⟩,r1,r2,r3⟩:=hsc.m.mld hm
      cases he
      obtain⟨n,hnk⟩:=At.mk (show j<ys.length by rw[dA2];exact hlk)
      obtain⟨b',o',c',he',hnI,hc'⟩:=hp.int hnk
      cases he'
      have hmb:=vv.mbd hm
      have hnb:=vv.wbd dt9 hnk
      have hL:O7 s x j=n-m.us:=by unfold O7;rw[hys.out,be9 hm,hnk.getD]
      have hj5:j<5:=by have:=vv.m5;omega
      have eU9:(j:Int)<(s.mo.length:Int):=by omega
      have eV0:(j:Int)<(ys.length:Int):=by omega
      have eV1:(j:Int)<5:=by omega
      gi_upto_region 13 with fail
      have hn0:Hc wr.heap.size=none:=hwr.D6 (fh0 _)
      have hwX:=(hwr.alloc (.cells #[.int .i64 m.pg,.int .i64 m.us,.int .i64 m.br] 96)).put (heap_alloc_new wr _)
      have aM9:=j5.L9 hn0 (.cells #[.int .i64 m.pg,.int .i64 m.us,.int .i64 m.br] 96 (0,0))
      have hpX:=j5.G7 Hc wr.heap.size (.cells #[.int .i64 m.pg,.int .i64 m.us,.int .i64 m.br] 96 (0,0))
      have hxX:=E5.alloc (.cells #[.int .i64 m.pg,.int .i64 m.us,.int .i64 m.br] 96)
      have hrX:=hr.alloc (.cells #[.int .i64 m.pg,.int .i64 m.us,.int .i64 m.br] 96)
      have cs8:=hRL.alloc (.cells #[.int .i64 m.pg,.int .i64 m.us,.int .i64 m.br] 96)
      have hoX:=ho.alloc (.cells #[.int .i64 m.pg,.int .i64 m.us,.int .i64 m.br] 96)
      have hXn:Hc.put wr.heap.size (.cells #[.int .i64 m.pg,.int .i64 m.us,.int .i64 m.br] 96 (0,0)) S=none:=by rw[j5.F3 _ _ (by have:=hr.lt;omega)];exact hn
      have hXl:Hc.put wr.heap.size (.cells #[.int .i64 m.pg,.int .i64 m.us,.int .i64 m.br] 96 (0,0)) LB=none:=by rw[j5.F3 _ _ (by have:=hRL.lt;omega)];exact hRL.free
      generalize Hc.put wr.heap.size (.cells #[.int .i64 m.pg,.int .i64 m.us,.int .i64 m.br] 96 (0,0))=Hx at*
      generalize wr.alloc (.cells #[.int .i64 m.pg,.int .i64 m.us,.int .i64 m.br] 96)=wx at*
      generalize wr.heap.size=cx at*
      have e1:=fun(w:World) (hw:j4 Hx w)=>D7 hpX hw 1
      simp at e1
      have ec:=lift aM9 hc'
      have hnq:Nonempty (WB Hx wx):=⟨⟨wx,hwX,Below.refl _ _⟩⟩
      refine X0 (C:=fun w'=>∃x:WB Hx wx,w'=x.w) 9 (by kernel_rfl) (by kernel_rfl) (by kernel_rfl) ⟨⟨wx.drew,hwX.drew,(Below.refl _ _).drew⟩,rfl⟩ ?_
      simp only[List.take_succ_cons,List.take_zero,ff5,ff6]
      repeat go_big_quiet_step(fail)
      refine wpQuiet_nil ?_
      clear hnq
      rintro w2 ⟨⟨_,hw2,hb2⟩,rfl⟩
      have dT9:=hxX.step (hb2.mono hxX.below.size) (hw2.mono aM9)
      have hr2:=hrX.below hb2
      have bV9:Row Hc w.heap.size w2 110 LB (aa6 s x j):=⟨(hb2.block LB cs8.lt).trans cs8.at_,cs8.base,cs8.free⟩
      have dU0:=hoX.az2 hb2
      have q1:=bV9.cell (show At (aa6 s x j) j (if j<j then O7 s x j else 0)from aA2 _ hj5)
      have q2:=bV9.fz j
      have hR3:=bV9.set j (n-m.us)
      rw[←hL,cs5 s x hj5,hL]at hR3
      have hr3:=hr2.off (a:=⟨LB,j,none⟩) (Ne.symm hSL) (.int .i64 (n-m.us))
      have bm0:=dT9.setCell (a:=⟨LB,j,none⟩) bV9.base bV9.free (.int .i64 (n-m.us))
      have ho3:=dU0.setCell (a:=⟨LB,j,none⟩) cT2 (.int .i64 (n-m.us))
      gi_upto_region 14 with fail
      have hw3:=hw2.setCell (a:=⟨LB,j,none⟩) hXl (.int .i64 (n-m.us))
      clear bV9 hr2 dT9 dU0 hrX cs8 hoX hxX hwX hr hRL ho E5 hwr q1 q2 hpX hn0
      generalize w2.setCell ⟨LB,j,none⟩ (.int .i64 (n-m.us))=w3 at*
      have hwS:=(hw3.put hr3.at_).put hR3.at_
      have bW0:=(j5.L9 hXn (.cells (ac5 (.slice (some ⟨b,o,none⟩) s.mo.length cm) (.slice ao s.wo.length co) (.slice aa s.wa.length ca) s.fr (.slice aw pre.length cw) (ai1 s pre x j)) 112 (0,0))).trans (j5.L9 (show(Hx.put S (.cells (ac5 (.slice (some ⟨b,o,none⟩) s.mo.length cm) (.slice ao s.wo.length co) (.slice aa s.wa.length ca) s.fr (.slice aw pre.length cw) (ai1 s pre x j)) 112 (0,0))) LB=none by rw[j5.F3 _ _ (Ne.symm hSL)];exact hXl) (.cells ((aa6 s x (j+1)).map (Value.int .i64)).toArray 110 (0,0)))
      have hpS:((Hx.put S (.cells (ac5 (.slice (some ⟨b,o,none⟩) s.mo.length cm) (.slice ao s.wo.length co) (.slice aa s.wa.length ca) s.fr (.slice aw pre.length cw) (ai1 s pre x j)) 112 (0,0))).put LB (.cells ((aa6 s x (j+1)).map (Value.int .i64)).toArray 110 (0,0))) S=some (.cells (ac5 (.slice (some ⟨b,o,none⟩) s.mo.length cm) (.slice ao s.wo.length co) (.slice aa s.wa.length ca) s.fr (.slice aw pre.length cw) (ai1 s pre x j)) 112 (0,0)):=by rw[j5.F3 _ _ hSL,j5.G7]
      have hpL:((Hx.put S (.cells (ac5 (.slice (some ⟨b,o,none⟩) s.mo.length cm) (.slice ao s.wo.length co) (.slice aa s.wa.length ca) s.fr (.slice aw pre.length cw) (ai1 s pre x j)) 112 (0,0))).put LB (.cells ((aa6 s x (j+1)).map (Value.int .i64)).toArray 110 (0,0))) LB=some (.cells ((aa6 s x (j+1)).map (Value.int .i64)).toArray 110 (0,0)):=j5.G7 _ _ _
      generalize(Hx.put S (.cells (ac5 (.slice (some ⟨b,o,none⟩) s.mo.length cm) (.slice ao s.wo.length co) (.slice aa s.wa.length ca) s.fr (.slice aw pre.length cw) (ai1 s pre x j)) 112 (0,0))).put LB (.cells ((aa6 s x (j+1)).map (Value.int .i64)).toArray 110 (0,0))=Hs at*
      have z4:∀W',j4 Hs W'→W'.cell? ⟨S,4,none⟩=some (.slice aw pre.length cw):=fun W' h=>(D7 hpS h 4).trans (by unfold ac5;rw[Array.getElem?_append_left (by show _<5;omega)];rfl)
      have zj:∀W',j4 Hs W'→W'.cell? ⟨S,5+j,none⟩=some (.int .i64 (al0 s j pre)):=fun W' h=>(D7 hpS h (5+j)).trans (bB0 (aT9 s pre x hj5 hlk))
      have zl:∀W',j4 Hs W'→W'.cell? ⟨LB,j,none⟩=some (.int .i64 (n-m.us)):=fun W' h=>(D7 hpL h j).trans (by have:=cS9 s x hj5;rw[hL]at this;simp[show(aa6 s x (j+1))[j]? =some (n-m.us)from this])
      have zp:=lift bW0 (lift aM9 kp)
      have hlow:al0 s j (pre++[x])=if n-m.us<al0 s j pre∨pre.length=0 then n-m.us else al0 s j pre:=by
       cases pre with
       |nil=>simp[al0,hL]
       |cons k l=>
        rw[cX0 _ _ _ _ (by simp),hL]
        simp only[ff8,Nat.add_one_ne_zero,or_false]
        split<;>omega
      cases hg1:decide (n-m.us<al0 s j pre)
      ·cases hg2:((pre.length:Int)==0)
       ·have hno:¬(n-m.us<al0 s j pre∨pre.length=0):=by
         rintro(h|h)
         ·exact absurd h (of_decide_eq_false hg1)
         ·rw[h]at hg2;cases hg2
        have hne:Nonempty (WB Hs w3):=⟨⟨w3,hwS,Below.refl _ _⟩⟩
        refine as5 (C:=fun w'=>∃x:WB Hs w3,w'=x.w) (by kernel_rfl) (by kernel_rfl) (by kernel_rfl) ⟨⟨w3.drew,hwS.drew,(Below.refl _ _).drew⟩,rfl⟩ ?_
        repeat go_big_quiet_step(fail)
        refine wpQuiet_nil ?_
        clear hne
        rintro w4 ⟨⟨_,hw4,hb4⟩,rfl⟩
        have hx4:=bm0.step (hb4.mono bm0.below.size) (hw4.mono (aM9.trans bW0))
        have hr4:=hr3.below hb4
        have hR4:Row Hc w.heap.size w4 110 LB (aa6 s x (j+1)):=⟨(hb4.block LB hR3.lt).trans hR3.at_,hR3.base,hR3.free⟩
        have ho4:=ho3.az2 hb4
        clear bm0 hr3 hR3 ho3 hwS hb4
        have hsz:=cs6 s pre x hj5 hlk (by rw[hlow,if_neg hno])
        rw[hsz]at hr4
        gi_wp2
        go_roundw
        case rel=>exact⟨j+1,hlk,by go_num,hx4,hr4,hR4,ho4⟩
        case measure=>simp[intOf];omega
       ·have hyes:n-m.us<al0 s j pre∨pre.length=0:= .inr (by have:=beq_iff_eq.1 hg2;omega)
        have hne:Nonempty (WB Hs w3):=⟨⟨w3,hwS,Below.refl _ _⟩⟩
        refine as5 (C:=fun w'=>∃x:WB Hs w3,w'=x.w) (by kernel_rfl) (by kernel_rfl) (by kernel_rfl) ⟨⟨w3.drew,hwS.drew,(Below.refl _ _).drew⟩,rfl⟩ ?_
        repeat go_big_quiet_step(fail)
        refine wpQuiet_nil ?_
        clear hne
        rintro w4 ⟨⟨_,hw4,hb4⟩,rfl⟩
        have hx4:=bm0.step (hb4.mono bm0.below.size) (hw4.mono (aM9.trans bW0))
        have hr4:=hr3.below hb4
        have hR4:Row Hc w.heap.size w4 110 LB (aa6 s x (j+1)):=⟨(hb4.block LB hR3.lt).trans hR3.at_,hR3.base,hR3.free⟩
        have ho4:=ho3.az2 hb4
        clear bm0 hr3 hR3 ho3 hwS hb4
        gi_upto_region 15 with fail
        have hnq:Nonempty (WB Hs w4):=⟨⟨w4,hw4,Below.refl _ _⟩⟩
        refine X0 (C:=fun w'=>∃x:WB Hs w4,w'=x.w) 8 (by kernel_rfl) (by kernel_rfl) (by kernel_rfl) ⟨⟨w4.drew,hw4.drew,(Below.refl _ _).drew⟩,rfl⟩ ?_
        simp only[List.take_succ_cons,List.take_zero,ff5,ff6]
        repeat go_big_quiet_step(fail)
        refine wpQuiet_nil ?_
        clear hnq
        rintro w5 ⟨⟨_,du1,hb5⟩,rfl⟩
        have hx5:=(hx4.step (hb5.mono hx4.below.size) (du1.mono (aM9.trans bW0))).setCell (a:=⟨S,5+j,none⟩) hb hn (.int .i64 (n-m.us))
        have hr5:=hr4.below hb5
        have hR5:Row Hc w.heap.size w5 110 LB (aa6 s x (j+1)):=⟨(hb5.block LB hR4.lt).trans hR4.at_,hR4.base,hR4.free⟩
        have ho5:=(ho4.az2 hb5).setCell (a:=⟨S,5+j,none⟩) hSW (.int .i64 (n-m.us))
        have q5:=hr5.cz (aT9 s pre x hj5 hlk)
        have q6:=hr5.fz (5+j)
        have hr6:=hr5.dT4 j (n-m.us)
        have hsz:=be2 s pre x hj5 hlk
        rw[hlow,if_pos hyes]at hsz
        rw[hsz]at hr6
        have hR6:=hR5.other (a:=⟨S,5+j,none⟩) hSL (.int .i64 (n-m.us))
        clear hx4 hr4 hR4 ho4 hw4 hb5
        gi_wp2
        go_roundw
        case rel=>exact⟨j+1,hlk,by go_num,hx5,hr6,hR6,ho5⟩
        case measure=>simp[intOf];omega
      ·have hyes:n-m.us<al0 s j pre∨pre.length=0:= .inl (of_decide_eq_true hg1)
       have hne:Nonempty (WB Hs w3):=⟨⟨w3,hwS,Below.refl _ _⟩⟩
       refine as5 (C:=fun w'=>∃x:WB Hs w3,w'=x.w) (by kernel_rfl) (by kernel_rfl) (by kernel_rfl) ⟨⟨w3.drew,hwS.drew,(Below.refl _ _).drew⟩,rfl⟩ ?_
       repeat go_big_quiet_step(fail)
       refine wpQuiet_nil ?_
       clear hne
       rintro w4 ⟨⟨_,hw4,hb4⟩,rfl⟩
       have hx4:=bm0.step (hb4.mono bm0.below.size) (hw4.mono (aM9.trans bW0))
       have hr4:=hr3.below hb4
       have hR4:Row Hc w.heap.size w4 110 LB (aa6 s x (j+1)):=⟨(hb4.block LB hR3.lt).trans hR3.at_,hR3.base,hR3.free⟩
       have ho4:=ho3.az2 hb4
       clear bm0 hr3 hR3 ho3 hwS hb4
       gi_upto_region 15 with fail
       have hnq:Nonempty (WB Hs w4):=⟨⟨w4,hw4,Below.refl _ _⟩⟩
       refine X0 (C:=fun w'=>∃x:WB Hs w4,w'=x.w) 8 (by kernel_rfl) (by kernel_rfl) (by kernel_rfl) ⟨⟨w4.drew,hw4.drew,(Below.refl _ _).drew⟩,rfl⟩ ?_
       simp only[List.take_succ_cons,List.take_zero,ff5,ff6]
       repeat go_big_quiet_step(fail)
       refine wpQuiet_nil ?_
       clear hnq
       rintro w5 ⟨⟨_,du1,hb5⟩,rfl⟩
       have hx5:=(hx4.step (hb5.mono hx4.below.size) (du1.mono (aM9.trans bW0))).setCell (a:=⟨S,5+j,none⟩) hb hn (.int .i64 (n-m.us))
       have hr5:=hr4.below hb5
       have hR5:Row Hc w.heap.size w5 110 LB (aa6 s x (j+1)):=⟨(hb5.block LB hR4.lt).trans hR4.at_,hR4.base,hR4.free⟩
       have ho5:=(ho4.az2 hb5).setCell (a:=⟨S,5+j,none⟩) hSW (.int .i64 (n-m.us))
       have q5:=hr5.cz (aT9 s pre x hj5 hlk)
       have q6:=hr5.fz (5+j)
       have hr6:=hr5.dT4 j (n-m.us)
       have hsz:=be2 s pre x hj5 hlk
       rw[hlow,if_pos hyes]at hsz
       rw[hsz]at hr6
       have hR6:=hR5.other (a:=⟨S,5+j,none⟩) hSL (.int .i64 (n-m.us))
       clear hx4 hr4 hR4 ho4 hw4 hb5
       gi_wp2
       go_roundw
       case rel=>exact⟨j+1,hlk,by go_num,hx5,hr6,hR6,ho5⟩
       case measure=>simp[intOf];omega
     ·have hje:j=s.mo.length:=by omega
      have hend:ai1 s pre x j=av9 s (pre++[x]):=by rw[hje];exact cB8 s pre x
      have hbd:=cT1 vv dt9 (Nat.le_of_eq hje)
      have hlf:aa6 s x j=(ak0 s x).l:=by rw[hje];rfl
      rw[hend]at hr
      obtain⟨y0,y1,y2,y3,y4,hy⟩:=cT0 (aX3 (fun i=>if i<j then O7 s x i else 0))
      replace hy:aa6 s x j=[y0,y1,y2,y3,y4]:=hy
      rw[hy]at hRL hbd hlf
      have hnj:¬((j:Int)<(s.mo.length:Int)):=by omega
      gi_upto_region 17 with fail
      have hrep:Enc.rep Hc (ak0 s x) [.int .i64 y0,.int .i64 y1,.int .i64 y2,.int .i64 y3,.int .i64 y4]:=⟨by rw[←hlf];rfl,by rw[←hlf];rfl,by rw[←hlf];intro y hy';have:=hbd y hy';unfold K8;omega⟩
      have hwS:=(hwr.put hr.at_).put hRL.at_
      have dB4:=(j5.L9 hn (.cells (ac5 (.slice am s.mo.length cm) (.slice ao s.wo.length co) (.slice aa s.wa.length ca) s.fr (.slice aw pre.length cw) (av9 s (pre++[x]))) 112 (0,0))).trans (j5.L9 (show(Hc.put S (.cells (ac5 (.slice am s.mo.length cm) (.slice ao s.wo.length co) (.slice aa s.wa.length ca) s.fr (.slice aw pre.length cw) (av9 s (pre++[x]))) 112 (0,0))) LB=none by rw[j5.F3 _ _ (Ne.symm hSL)];exact hRL.free) (.cells (([y0,y1,y2,y3,y4]:List Int).map (Value.int .i64)).toArray 110 (0,0)))
      have hpS:((Hc.put S (.cells (ac5 (.slice am s.mo.length cm) (.slice ao s.wo.length co) (.slice aa s.wa.length ca) s.fr (.slice aw pre.length cw) (av9 s (pre++[x]))) 112 (0,0))).put LB (.cells (([y0,y1,y2,y3,y4]:List Int).map (Value.int .i64)).toArray 110 (0,0))) S=some (.cells (ac5 (.slice am s.mo.length cm) (.slice ao s.wo.length co) (.slice aa s.wa.length ca) s.fr (.slice aw pre.length cw) (av9 s (pre++[x]))) 112 (0,0)):=by rw[j5.F3 _ _ hSL,j5.G7]
      have hpL:((Hc.put S (.cells (ac5 (.slice am s.mo.length cm) (.slice ao s.wo.length co) (.slice aa s.wa.length ca) s.fr (.slice aw pre.length cw) (av9 s (pre++[x]))) 112 (0,0))).put LB (.cells (([y0,y1,y2,y3,y4]:List Int).map (Value.int .i64)).toArray 110 (0,0))) LB=some (.cells (([y0,y1,y2,y3,y4]:List Int).map (Value.int .i64)).toArray 110 (0,0)):=j5.G7 _ _ _
      have du2:∀q,(Value.slice aw pre.length cw).ownBlock=some q→((Hc.put S (.cells (ac5 (.slice am s.mo.length cm) (.slice ao s.wo.length co) (.slice aa s.wa.length ca) s.fr (.slice aw pre.length cw) (av9 s (pre++[x]))) 112 (0,0))).put LB (.cells (([y0,y1,y2,y3,y4]:List Int).map (Value.int .i64)).toArray 110 (0,0))) q=none:=fun q e=>by
       rw[j5.F3 _ _ (fun h=>cT2 (by rw[e,h])),j5.F3 _ _ (fun h=>hSW (by rw[e,h]))]
       exact ho.free q e
      have ew2:some S≠(Value.slice aw pre.length cw).ownBlock:=fun e=>hSW e.symm
      generalize(Hc.put S (.cells (ac5 (.slice am s.mo.length cm) (.slice ao s.wo.length co) (.slice aa s.wa.length ca) s.fr (.slice aw pre.length cw) (av9 s (pre++[x]))) 112 (0,0))).put LB (.cells (([y0,y1,y2,y3,y4]:List Int).map (Value.int .i64)).toArray 110 (0,0))=Hs at*
      have z4:∀W',j4 Hs W'→W'.cell? ⟨S,4,none⟩=some (.slice aw pre.length cw):=fun W' h=>(D7 hpS h 4).trans (by unfold ac5;rw[Array.getElem?_append_left (by show _<5;omega)];rfl)
      have zp:=lift dB4 kp
      have l0:∀W',j4 Hs W'→W'.cell? ⟨LB,0,none⟩=some (.int .i64 y0):=fun W' h=>D7 hpL h 0
      have l1:∀W',j4 Hs W'→W'.cell? ⟨LB,1,none⟩=some (.int .i64 y1):=fun W' h=>D7 hpL h 1
      have l2:∀W',j4 Hs W'→W'.cell? ⟨LB,2,none⟩=some (.int .i64 y2):=fun W' h=>D7 hpL h 2
      have l3:∀W',j4 Hs W'→W'.cell? ⟨LB,3,none⟩=some (.int .i64 y3):=fun W' h=>D7 hpL h 3
      have l4:∀W',j4 Hs W'→W'.cell? ⟨LB,4,none⟩=some (.int .i64 y4):=fun W' h=>D7 hpL h 4
      clear hpS hpL k0 kp cT2
      refine ba2 (S:=(fun w'=>j4 Hs w')) 8 (by kernel_rfl) (by kernel_rfl) (by rintro⟨_,_,h⟩;exact h) ?_ (fun N9=> ?_)
      ·(try dsimp only)
       (first|assumption|exact j4.drew ‹_›|exact j4.alloc ‹_› _|exact j4.drew (j4.alloc ‹_› _)|exact j4.alloc (j4.drew ‹_›) _)
      simp only[ff8,fg1,fh6,fh7,fg9,fg8,fg3,ff9,fg2]
      refine hdA 0 ?_
      refine hdA 1 ?_
      refine hdA 2 ?_
      refine hdA 3 ?_
      refine hdA 4 ?_
      refine hdA 5 ?_
      (try simp only[Act.put,fe7,ff1,ff2])
      refine hdR 6 [] (fun K hK=> ?_) r9.nil
      go_simp
      refine hK.out _ _ ?_ (fun I4=> ?_)
      ·(try dsimp only)
       (first|assumption|exact j4.drew ‹_›|exact j4.alloc ‹_› _|exact j4.drew (j4.alloc ‹_› _)|exact j4.alloc (j4.drew ‹_›) _)
      clear hK K N9
      (try simp only[Act.put,fe7,ff1,ff2])
      refine hdR 7 [] (fun K hK=> ?_) r9.nil
      (go_split_ands;refine aY8 (H:=Hc) (base:=w.heap.size) (x:=ak0 s x) eR5 rfl _ _ rfl rfl (by first|exact(ho.drew.alloc _)|exact(ho.alloc _).drew) rfl hrep (by intro j' u hu;match j',hu with|0,hu=>(simp at hu;subst hu;simp[go_sem])|1,hu=>(simp at hu;subst hu;simp[go_sem])|2,hu=>(simp at hu;subst hu;simp[go_sem])|3,hu=>(simp at hu;subst hu;simp[go_sem])|4,hu=>(simp at hu;subst hu;simp[go_sem])|n+5,hu=>simp at hu) (j4.mono ‹_› dB4) (by simp[Enc.M4];omega) (by simp;omega) (by have h9:=E5.below.size;simp;omega) ?_;intro v6 w6 o6 hg6 hw6 bl1;have k1:j4 Hs w6:=j4.grown ‹_› hg6 du2;have x6:Ext w H w6 Hc:=Ext.grown (by first|exact(E5.drew.alloc _)|exact(E5.alloc _).drew) hg6 (fun q e=>(ho.lt q e).1) ho.free;have r6:ae8 S w6 _ _ _ _ _ _:=⟨(hg6.block S (by have:=hr.lt;simp;omega) ew2).trans ((by first|exact(hr.drew.alloc _)|exact(hr.alloc _).drew:ae8 S _ _ _ _ _ _ _).at_)⟩)
      refine hK.out _ _ ?_ (fun F8=> ?_)
      ·(try dsimp only)
       (first|assumption|exact j4.drew ‹_›|exact j4.alloc ‹_› _|exact j4.drew (j4.alloc ‹_› _)|exact j4.alloc (j4.drew ‹_›) _)
      clear hK K I4
      (try simp only[Act.put,fe7,ff1,ff2])
      refine G9 (by kernel_rfl) ?_
      simp only[ff5,ff6]
      obtain⟨bv,dv,rfl,_,_⟩:=o6.form
      obtain⟨t0,t1,t2,t3,t4⟩:=r6.cells
      have t5:=r6.fz 4
      go_wp2
      have hmp:(pre++[x]).map (ak0 s)=pre.map (ak0 s)++[ak0 s x]:=by rw[List.map_append];rfl
      have hl6:(pre.map (ak0 s)++[ak0 s x]).length=pre.length+1:=by simp
      rw[hl6]at o6
      have hS6:(Value.slice bv (pre.length+1) dv).ownBlock≠some S:=fun e=>by
       obtain⟨cur,h⟩:=o6.X7 e
       rw[r6.at_]at h
       simp only[Option.some.injEq,Obj.cells.injEq]at h
       exact absurd h.2.1 (by decide)
      have x7:=x6.setCell (a:=⟨S,4,none⟩) hb hn (.slice bv (pre.length+1) dv)
      exact⟨x7.holds,x7,hn,hb,_,r6.setW _,by rw[hmp];exact o6.setCell (a:=⟨S,4,none⟩) hS6 _⟩
   case done=>
    rintro DD Hc W hDD hWc K5 hdef ⟨hxc,hn,hb,wv,hr,ho⟩
    have hDW:=hWc.at_ _ _ hdef
    have hDlt:=(Array.getElem?_eq_some_iff.1 hDW).1
    have hSD:S≠DD:=fun e=>by rw[e,hdef]at hn;cases hn
    obtain⟨aw,cw,rfl,_,_⟩:=ho.form
    have bl9:((F4 s).map (ak0 s)).length=(F4 s).length:=by rw[fg5]
    rw[bl9]at hr ho
    obtain⟨t0,t1,t2,t3,t4⟩:=hr.cells
    have tp:=lift K5 gp
    have hSW:(Value.slice aw (F4 s).length cw).ownBlock≠some S:=fun e=>by
     obtain⟨cur,h⟩:=ho.X7 e
     rw[hr.at_]at h
     simp only[Option.some.injEq,Obj.cells.injEq]at h
     exact absurd h.2.1 (by decide)
    obtain⟨H6,x6,hn6,hs6⟩:=hxc.am3 (show w.heap.size≤DD by omega) hDW (.deferred none)
    have ho6:=(ho.am3 (o':= .deferred none) hDW rfl).df6 (H':=H6) (fun k e=>(hs6 k (by rintro rfl;obtain⟨_,h⟩:=ho.X7 e;rw[hDW]at h;cases h)).trans (ho.free k e))
    obtain⟨H7,x7,l7,s7,eg2⟩:=ho6.close x6
    have hr7:ae8 S (W.putObj DD (.deferred none)) _ _ _ _ _ _:=⟨(World.putObj_heap_other hSD).trans hr.at_⟩
    have hn7:H7 S=none:=(eg2 S hSW).trans ((hs6 S hSD).trans hn)
    by_cases hz:(F4 s).length=0
    ·rw[if_pos hz]at hE
     have hzi:((F4 s).length:Int)=0:=by omega
     go_wp2_with fail
     refine ak6 hDW (results_tmp2 rfl _ _ _) ?_
     exact⟨_,H7,rfl,x7,be3 hE.out (by decide)⟩
    ·rw[if_neg hz]at hE
     have hzi:¬((F4 s).length:Int)=0:=by omega
     go_wp2_with fail
     refine ak6 hDW (results_tmp2 rfl _ _ _) ?_
     have x8:=x7.freeze hb hr7.at_
     have l8:=j5.L9 hn7 (.cells (ac5 (.slice am s.mo.length cm) (.slice ao s.wo.length co) (.slice aa s.wa.length ca) s.fr (.slice aw (F4 s).length cw) (av9 s (F4 s))) 112 (0,0))
     exact⟨_,_,rfl,x8,cs7 hE.out ⟨j5.G7 _ _ _,hs.mono (x8.le hwk.out),s7.mono l8⟩⟩
   case stop=>rintro _ _ _ _ _ _ _ _ _ _ h;exact h.elim
end
section
open Go.RowKit
attribute [local go_sem] j4.drew j4.alloc j4.drewN WB.holds Oper.semAt_some Q9 O1 J7
theorem cT3 (S:Nat) (vm vo va wv:Value) (s:G5) (v:Y0 s) (p:Int) (H:j5) (w:World) (hw:j4 H w) (o:OpenAt H S vm vo va wv s):
 Calls Tryz.prog 68 #[.pointer (some ⟨S,0,none⟩),.int .i64 p] w (I1 w (.int .i64 (aA6 s p))):=by
 obtain⟨am,cm,rfl,hm1,hm2⟩:=o.sh.m.form
 have s0:∀W,j4 H W→W.cell? ⟨S,0,none⟩=some (.slice am s.mo.length cm):=fun W h=>(D7 o.at_ h 0).trans (by unfold ac5;rw[Array.getElem?_append_left (by show _<5;omega)];rfl)
 have sz:∀(j:Nat),j<s.mo.length→∀W,j4 H W→W.cell? ⟨S,5+j,none⟩=some (.int .i64 (as6 s j)):=fun j hj W h=>(D7 o.at_ h (5+j)).trans (bB0 (by have:=aA2 (fun i=>if i<s.mo.length then al0 s i (F4 s)else 0) (i:=j) (by have:=v.m5;omega);rw[if_pos hj]at this;exact this))
 have hsm:=o.sh.m
 replace sz:=fe6 sz
 have hend:as7 s p s.mo.length=aA6 s p:=rfl
 replace hend:=fe6 hend
 have hm5:=v.m5
 clear o
 go_enter Tryz.func68,Tryz.ntmps68
 go_wp2
 go_loopw [5,6,7,14] (fun n _ _ i wr=>∃k:Nat,k≤s.mo.length∧i= .int .i64 (k:Int)∧n= .int .i64 (as7 s p k)∧Ext w H wr H) (fun _ _ _ i _=>s.mo.length-(intOf i).toNat)
 case atStart=>exact⟨0,fh3 _,rfl,rfl,Ext.refl hw⟩
 case round=>
  obtain⟨k,hk,rfl,rfl,E5⟩:=hrel
  have hwr:=E5.holds
  have hk0:(0:Int)≤(k:Int):=by omega
  by_cases hlk:k<s.mo.length
  ·obtain⟨m,hm⟩:=At.mk hlk
   obtain⟨b,o,c,he,⟨i1,i2,i3⟩,r1,r2,r3⟩:=hsm.mld hm
   cases he
   have hz:=sz.out k hlk
   have hk1:(k:Int)<(s.mo.length:Int):=by omega
   have hk5:(k:Int)<5:=by omega
   have hbd:=bt1 v p k (show k≤s.mo.length by omega)
   have hlb:=bK8 v hlk
   have hsucc:as7 s p (k+1)=if m.pg=p then as7 s p k+as6 s k else as7 s p k:=by
    show as7 s p k+(if(mld s k).pg=p then as6 s k else 0)=_
    rw[be9 hm]
    split<;>omega
   generalize as6 s k=z at*
   generalize as7 s p k=t at*
   cases hg:(m.pg==p)
   ·have hne:¬m.pg=p:=by intro e;rw[e]at hg;simp at hg
    rw[if_neg hne]at hsucc
    replace hsucc:=fe6 hsucc
    clear hne
    go_wp2
    go_roundw
    case rel=>exact⟨k+1,hlk,by go_num,by rw[hsucc.out],E5.alloc _⟩
    case measure=>simp[intOf];omega
   ·have heq:m.pg=p:=beq_iff_eq.1 hg
    rw[if_pos heq]at hsucc
    replace hsucc:=fe6 hsucc
    clear heq
    have eR0:wrap64 (t+z)=t+z:=by unfold wrap64;omega
    go_wp2
    go_roundw
    case rel=>exact⟨k+1,hlk,by go_num,by rw[hsucc.out],E5.alloc _⟩
    case measure=>simp[intOf];omega
  ·have hke:k=s.mo.length:=by omega
   go_wp2_with fail
   go_ret
   rw[←hend.out,←hke]
   exact⟨rfl,E5.below⟩
end
section
open Go.RowKit
attribute [local go_sem] j4.drew j4.alloc j4.drewN WB.holds Oper.semAt_some Q9 O1 J7
theorem bm1 {s:G5} {is:Bool} (h:aa9 s is=0):Y0 s:=by
 cases hv:Y5 s with
 |true=>exact aj5.1 hv
 |false=>unfold aa9 at h;rw[hv]at h;cases h
theorem du3 (vm vo va:Value) (s:G5) (H:j5) (w:World) (hw:j4 H w) (hs:Sho H vm vo va s):
 Calls Tryz.prog 38 #[aq3 vm vo va s] w (I1 w (.tuple #[.int .i64 (newR s),.int .i64 (aa9 s true)])):=by
 have hop:=fun(H1:j5) (W:World) (hW:j4 H1 W) (hle:D8 H H1)=>bI7 vm vo va s true H1 W hW (hs.mono hle)
 by_cases he:aa9 s true=0
 ·have vv:=bm1 he
  have hR:newR s=cK8 s:=by unfold newR;rw[if_pos he]
  rw[hR,he]
  unfold aq7 at hop
  simp only[he,if_true]at hop
  replace hop:=fe6 hop
  clear hR he
  go_enter Tryz.func38,Tryz.ntmps38
  go_upto_region 1 with(refine af8 rfl _ rfl (Ext.refl hw) ?_;intro B w1 H1 hle hx hB hBw;obtain⟨hc0,hc1,hc2,hc3⟩:=V6 hB;clear hB hw;have hw1:=hx.holds)
  have hs1:=hs.mono hle
  obtain⟨aa,ca,rfl,ha1,ha2⟩:=hs1.a.form
  go_upto_region 4 with(go_at_call 58;refine(hop.out _ _ hw1 hle).mono ?_;rintro e w' ⟨_,H2,rfl,x2,S,um,uo,ua,wv,rfl,hO⟩)
  have hw2:=x2.holds
  have l2:=x2.le hw1
  have g0:=lift l2 hc0
  have g2:=lift l2 hc2
  have g3:=lift l2 hc3
  have ha:=hs1.a.mono l2
  have x02:=hx.trans x2
  have hpl:=fun(p:Int) (W:World) (hW:j4 H2 W)=>cT3 S um uo ua wv s vv p H2 W hW hO
  replace hpl:=fe6 hpl
  have hend:ax7 s s.wa.length=cK8 s:=rfl
  replace hend:=fe6 hend
  clear hO hc0 hc1 hc2 hc3 hs1 hs hop x2
  go_wp2
  go_loopw [6,7,8,20] (fun n _ _ i wr=>∃k:Nat,k≤s.wa.length∧i= .int .i64 (k:Int)∧n= .int .i64 (ax7 s k)∧Ext w H wr H2) (fun _ _ _ i _=>s.wa.length-(intOf i).toNat)
  case atStart=>exact⟨0,fh3 _,rfl,rfl,x02⟩
  case round=>
   obtain⟨k,hk,rfl,rfl,E5⟩:=hrel
   have hwr:=E5.holds
   have hk0:(0:Int)≤(k:Int):=by omega
   by_cases hlk:k<s.wa.length
   ·obtain⟨n,hn⟩:=At.mk hlk
    obtain⟨b,o,c,he,hi,hc⟩:=ha.int hn
    cases he
    have hk1:(k:Int)<(s.wa.length:Int):=by omega
    have hnb:0≤n∧n≤12:=by
     have h1:=List.all_eq_true.1 vv.wa n hn.mem
     unfold within at h1
     rw[fh9,decide_eq_true_eq,decide_eq_true_eq]at h1
     exact h1
    have hfr:1≤s.fr∧s.fr≤12:=by
     have h1:=vv.fr
     unfold within at h1
     rw[fh9,decide_eq_true_eq,decide_eq_true_eq]at h1
     exact h1
    obtain⟨hw64,hsl,hsh⟩:=cl2 vv (k:Int) hnb
    have htb:=bH1 vv k (by omega)
    have hw3:=vv.w3
    have hsucc:ax7 s (k+1)=ax7 s k+aM3 s.fr (n-aA6 s (k:Int)):=by
     show ax7 s k+aM3 s.fr (s.wa.getD k 0-aA6 s (k:Int))=_
     rw[hn.getD]
    have hbt:=bT6 hfr.1 100 (n-aA6 s (k:Int)) (by omega)
    have ew3:=fe6 (hpl.out (k:Int))
    obtain⟨sh,hsh'⟩:∃sh,n-aA6 s (k:Int)=sh:=⟨_,rfl⟩
    rw[hsh']at hw64 hsl hsh hsucc hbt
    replace hsh':=fe6 hsh'
    generalize aA6 s (k:Int)=sp at*
    have hnz:(s.fr==0)=false:=by rw[beq_eq_false_iff_ne];omega
    have hbq:aM3 s.fr sh=Int.tdiv ((if 0<sh then sh else 0)+s.fr-1) s.fr:=by
     unfold aM3
     split
     ·rw[Int.tdiv_eq_ediv_of_nonneg (by omega)]
     ·rw[Int.tdiv_eq_ediv_of_nonneg (by omega),Int.zero_add]
      exact(Int.ediv_eq_zero_of_lt (by omega) (by omega)).symm
    go_upto_region 8 with fail
    refine E8 H2 (by kernel_rfl) (by kernel_rfl) hwr (fun hne=> ?_)
    repeat go_big_quiet_step((first|(go_at_call 68;exact Calls.am7 (ew3.out _ (WB.holds _)))))
    refine wpQuiet_nil ?_
    rintro⟨w2,hw2,hb2⟩
    clear hne
    have F5:wrap64 (ax7 s k+wrap64 ((wrap64 (wrap64 ((if 0<wrap64 (n-sp)then wrap64 (n-sp)else 0)+s.fr)-1)).tdiv s.fr))=ax7 s (k+1):=by
     rw[show wrap64 (n-sp)=sh by rw[hsh'.out];exact hw64,hsucc]
     have hmx:0≤(if 0<sh then sh else 0)∧(if 0<sh then sh else 0)≤100:=by split<;>omega
     generalize(if 0<sh then sh else 0)=mx at*
     have e1:wrap64 (mx+s.fr)=mx+s.fr:=by unfold wrap64;omega
     have e2:wrap64 (mx+s.fr-1)=mx+s.fr-1:=by unfold wrap64;omega
     rw[e1,e2,←hbq]
     generalize aM3 s.fr sh=bt at*
     have e3:wrap64 bt=bt:=by unfold wrap64;omega
     rw[e3]
     unfold wrap64;omega
    have x2':=E5.step (hb2.mono E5.below.size) hw2
    go_wp2
    rw[F5]
    go_roundw
    case rel=>exact⟨k+1,hlk,by go_num,rfl,x2'⟩
    case measure=>simp[intOf];omega
   ·have hke:k=s.wa.length:=by omega
    go_wp2_with fail
    refine bodyPost_ret (results_tmp2 rfl _ _ _) rfl ?_
    rw[←hend.out,←hke]
    exact⟨rfl,E5.below⟩
 ·have hR:newR s=0:=by unfold newR;rw[if_neg he]
  rw[hR]
  unfold aq7 at hop
  simp only[he,if_false]at hop
  have hne:(aa9 s true != 0)=true:=bne_iff_ne.2 he
  generalize aa9 s true=e at*
  replace hop:=fe6 hop
  clear hR he
  go_enter Tryz.func38,Tryz.ntmps38
  go_upto_region 1 with(refine af8 rfl _ rfl (Ext.refl hw) ?_;intro B w1 H1 hle hx hB hBw;obtain⟨hc0,hc1,hc2,hc3⟩:=V6 hB;clear hB hw;have hw1:=hx.holds)
  go_wp2_with(first|(go_at_call 58;refine(hop.out _ _ hw1 hle).mono ?_;rintro e w' ⟨_,H2,rfl,x2,rfl⟩))
  refine bodyPost_ret (results_tmp2 rfl _ _ _) rfl ?_
  exact⟨rfl,hx.below.trans (x2.below.mono hx.below.size)⟩
end
section
open Go.RowKit
attribute [local go_sem] j4.drew j4.alloc j4.drewN WB.holds Oper.semAt_some Q9 O1 J7
def aA9 (s:G5) (i:Nat) (l:List Nat):Int:=l.foldl (fun o k=>max o (O7 s k i)) 0
theorem cT4 (s:G5) (i:Nat) (l:List Nat) (k:Nat):aA9 s i (l++[k])=max (aA9 s i l) (O7 s k i):=by unfold aA9;rw[List.foldl_append];rfl
theorem bO0 {s:G5} (v:Y0 s) {k i:Nat} (hk:k∈F4 s) (hi:i<s.mo.length):0≤O7 s k i:=by
 have h1:=(List.mem_filter.1 hk).2
 unfold aI1 au6 at h1
 have h2:=List.all_eq_true.1 h1 i (List.mem_range.2 hi)
 unfold an5 at h2
 rw[fh9,decide_eq_true_eq]at h2
 unfold O7;omega
theorem cs9 {s:G5} (v:Y0 s) {i:Nat} (hi:i<s.mo.length) (hne:(F4 s).length≠0):aA9 s i (F4 s)=bK0 s i:=by
 unfold bK0
 cases hl:F4 s with
 |nil=>rw[hl]at hne;exact absurd rfl hne
 |cons k l=>
  have:=bO0 v (show k∈F4 s by rw[hl];simp) hi
  show l.foldl _ (max 0 (O7 s k i))=l.foldl _ (O7 s k i)
  rw[show max 0 (O7 s k i)=O7 s k i by omega]
theorem ct0 {s:G5} (v:Y0 s) {i:Nat} (hi:i<s.mo.length) (l:List Nat) (hl:∀k∈l,k∈F4 s):0≤aA9 s i l∧aA9 s i l≤12:=by
 have key:∀(l:List Nat) (a:Int),(0≤a∧a≤12)→(∀k∈l,k∈F4 s)→0≤l.foldl (fun o k=>max o (O7 s k i)) a∧l.foldl (fun o k=>max o (O7 s k i)) a≤12:=fun l=>by
  induction l with
  |nil=>intro a h _;exact h
  |cons k l ih=>
   intro a h hk
   have h1:=bt0 v (aN7 (hk k (by simp))) hi
   exact ih (max a (O7 s k i)) (by omega) fun j hj=>hk j (by simp[hj])
 exact key l 0 (by omega) hl
theorem cH2 {s:G5} {is:Bool} (h:aa9 s is=0):is=true∧(F4 s).length≠0:=by
 unfold aa9 at h
 split at h
 ·split at h
  ·rename_i h1
   split at h
   ·cases h
   ·rename_i h2;exact⟨h1,h2⟩
  ·cases h
 ·cases h
theorem aQ2.set1 {w0 w:World} {H0 H:j5} {RB OB:Nat} {lo hi:Int} (s:aQ2 w0 H0 RB OB w H lo hi) (b:Int):aQ2 w0 H0 RB OB (w.setCell ⟨OB,1,none⟩ (.int .i64 b)) H lo b:=
 ⟨s.x.setCell (a:=⟨OB,1,none⟩) s.ob s.oH _,(heap_setCell_other _ ⟨OB,1,none⟩ RB _ s.ne).trans s.r,M7 (i:=1) s.o (.int .i64 b),s.rb,s.ob,s.rH,s.oH,s.ne⟩
theorem dg4 (vm vo va:Value) (s:G5) (i:Int) (hI:K8 i) (H:j5) (w:World) (hw:j4 H w) (hs:Sho H vm vo va s):
 Calls Tryz.prog 31 #[aq3 vm vo va s,.int .i64 i] w (I1 w (.tuple #[.agg #[.int .i64 (az0 s i),.int .i64 (az1 s i)],.int .i64 (aa9 s (as8 s i))])):=by
 have hop:=fun(H1:j5) (W:World) (hW:j4 H1 W) (hle:D8 H H1)=>bI7 vm vo va s (as8 s i) H1 W hW (hs.mono hle)
 have hwi:as8 s i=within i 0 ((s.mo.length:Int)-1):=rfl
 by_cases he:aa9 s (as8 s i)=0
 ·have vv:=bm1 he
  obtain⟨his,hnz⟩:=cH2 he
  have hLo:az0 s i=as6 s i.toNat:=by unfold az0;rw[if_pos he]
  have hHi:az1 s i=bK0 s i.toNat:=by unfold az1;rw[if_pos he]
  rw[hLo,hHi,he]
  unfold aq7 at hop
  simp only[he,if_true]at hop
  rw[his]at hwi
  have hib:0≤i∧i≤(s.mo.length:Int)-1:=by
   have h1:=hwi.symm
   unfold within at h1
   rw[fh9,decide_eq_true_eq,decide_eq_true_eq]at h1
   exact h1
  rw[his]at hop
  obtain⟨q,rfl⟩:=Int.eq_ofNat_of_zero_le hib.1
  have hq:q<s.mo.length:=by omega
  rw[fh8,←cs9 vv hq hnz]
  have hm5:=vv.m5
  obtain⟨am,cm,rfl,hm1,hm2⟩:=hs.m.form
  replace hop:=fe6 hop
  have ew4:=fe6 hwi
  clear hLo hHi he hwi his
  have hwx:Hid (within (q:Int) 0 (IntKind.i64.wrap ((s.mo.length:Int)-1))=true):=by
   show _=_
   rw[show IntKind.i64.wrap ((s.mo.length:Int)-1)=(s.mo.length:Int)-1 by rw[IntKind.wrap_i64];omega]
   exact ew4.out.symm
  go_enter Tryz.func31,Tryz.ntmps31
  go_upto_region 1 with(refine af8 rfl _ rfl (Ext.refl hw) ?_;intro B w1 H1 hle hx hB hBw;obtain⟨hc0,hc1,hc2,hc3⟩:=V6 hB;clear hB hw;have hw1:=hx.holds)
  have rz:(w1.alloc (.cells #[.int .i64 0,.int .i64 0] 63)).heap[w1.heap.size]? =some (.cells #[.int .i64 0,.int .i64 0] 63 (0,0)):=heap_alloc_new w1 _
  have xa:=hx.alloc (.cells #[.int .i64 0,.int .i64 0] 63)
  have hRn:H1 w1.heap.size=none:=hw1.D6 (fh0 _)
  have hRb:=hx.below.size
  have hRl:w1.heap.size<(w1.alloc (.cells #[.int .i64 0,.int .i64 0] 63)).heap.size:=by simp
  generalize w1.alloc (.cells #[.int .i64 0,.int .i64 0] 63)=wa at*
  generalize w1.heap.size=RB at*
  clear hx hw1
  have hwa:=xa.holds
  refine U1 (S:=(fun w'=>j4 H1 w')) 12 (by kernel_rfl) (by kernel_rfl) ?_ (fun N9=> ?_)
  ·(try dsimp only)
   (first|assumption|exact j4.drew ‹_›|exact j4.alloc ‹_› _)
  simp only[ff8,fg1,fh6,fh7,fg9,fg8,fg3,ff9,fg2]
  refine hdA 0 ?_
  refine hdA 1 ?_
  refine hdA 2 ?_
  refine hdA 3 ?_
  (try simp only[Act.put,fe7,ff1,ff2])
  refine hdR 4 [] (fun K hK=> ?_) r9.nil
  go_simp
  refine hK.out _ _ ?_ (fun I4=> ?_)
  ·(try dsimp only)
   (first|assumption|exact j4.drew ‹_›|exact j4.alloc ‹_› _)
  clear hK K N9
  refine hdA 5 ?_
  (try simp only[Act.put,fe7,ff1,ff2])
  refine hdR 6 [] (fun K hK=> ?_) r9.nil
  (go_simp;go_at_call 59;refine(au9 _ _ _ _).mono ?_;rintro e w3 ⟨rfl,rfl⟩;simp only[hwx.out])
  refine hK.out _ _ ?_ (fun F8=> ?_)
  ·(try dsimp only)
   (first|assumption|exact j4.drew ‹_›|exact j4.alloc ‹_› _)
  clear hK K I4
  (try simp only[Act.put,fe7,ff1,ff2])
  refine hdR 7 [] (fun K hK=> ?_) r9.nil
  (go_simp;go_at_call 58;refine(hop.out _ _ ‹_› hle).mono ?_;rintro e w3 ⟨_,H2,rfl,x2,S,um,uo,ua,wv,rfl,hO⟩;have hk3:j4 H1 w3:=j4.mono x2.holds (x2.le ‹_›))
  refine hK.out _ _ ?_ (fun F9=> ?_)
  ·(try dsimp only)
   (first|assumption|exact j4.drew ‹_›|exact j4.alloc ‹_› _)
  clear hK K F8
  refine hdA 8 ?_
  refine hdA 9 ?_
  refine hdA 10 ?_
  refine hdA 11 ?_
  (try simp only[Act.put,fe7,ff1,ff2])
  refine G9 (by kernel_rfl) ?_
  simp only[ff5,ff6]
  have x03:=xa.drew.trans x2
  have hw3:=x2.holds
  have dU2:RB<w3.heap.size:=fh4 hRl x2.below.size
  have rz3:w3.heap[RB]? =some (.cells #[.int .i64 0,.int .i64 0] 63 (0,0)):=(x2.below.block RB hRl).trans rz
  have dU3:H2 RB=none:=(x2.same RB hRl).trans hRn
  have sz:∀W,j4 H2 W→W.cell? ⟨S,5+q,none⟩=some (.int .i64 (as6 s q)):=fun W h=>(D7 hO.at_ h (5+q)).trans (bB0 (by have:=aA2 (fun i=>if i<s.mo.length then al0 s i (F4 s)else 0) (i:=q) (by omega);rw[if_pos hq]at this;exact this))
  have s4:∀W,j4 H2 W→W.cell? ⟨S,4,none⟩=some wv:=fun W h=>(D7 hO.at_ h 4).trans (by unfold ac5;rw[Array.getElem?_append_left (by show _<5;omega)];rfl)
  have hWs:=hO.w
  obtain⟨aw,cw,rfl,_,_⟩:=hWs.form
  have bl9:((F4 s).map (ak0 s)).length=(F4 s).length:=by rw[fg5]
  rw[bl9]at s4 hWs
  have hq0:(0:Int)≤(q:Int):=by omega
  have hq5:(q:Int)<5:=by omega
  clear hO
  go_upto_region 5 with fail
  have sp:aQ2 w H RB w3.heap.size (w3.alloc (.cells #[.int .i64 (as6 s q),.int .i64 0] 63)) H2 (as6 s q) (aA9 s q ((F4 s).take 0)):=
   ⟨x03.alloc _,(heap_alloc_old w3 _ dU2).trans rz3,heap_alloc_new w3 _,hRb,x03.below.size,dU3,hw3.D6 (fh0 _),by omega⟩
  generalize w3.alloc (.cells #[.int .i64 (as6 s q),.int .i64 0] 63)=w4 at*
  generalize w3.heap.size=OB at*
  have hw4:=sp.x.holds
  have hlb:=bK8 vv hq
  have hend:aA9 s q ((F4 s).take (F4 s).length)=aA9 s q (F4 s):=by rw[List.take_length]
  replace hend:=fe6 hend
  generalize as6 s q=lo at*
  clear x03 hw3 x2 rz3 dU2 dU3 xa rz hRl
  go_wp2
  go_loopw [10,38] (fun _ i wr=>∃k:Nat,k≤(F4 s).length∧i= .int .i64 (k:Int)∧aQ2 w H RB OB wr H2 lo (aA9 s q ((F4 s).take k))) (fun _ i _=>(F4 s).length-(intOf i).toNat)
  case atStart=>exact⟨0,fh3 _,rfl,sp⟩
  case round=>
   clear sp
   obtain⟨k,hk,rfl,sp⟩:=hrel
   have hwr:=sp.x.holds
   have hk0:(0:Int)≤(k:Int):=by omega
   by_cases hlk:k<(F4 s).length
   ·obtain⟨x,hx⟩:=At.mk hlk
    have hxm:At ((F4 s).map (ak0 s)) k (ak0 s x):=by unfold At at*;rw[List.getElem?_map,hx];rfl
    obtain⟨b,o,c,ds,he,⟨hl5,hds,hI5⟩,hcc⟩:=hWs.get hxm
    rw[bl9]at he
    cases he
    obtain⟨y0,y1,y2,y3,y4,hy⟩:=cT0 hl5
    rw[hy]at hds hI5
    have r0:∀W,j4 H2 W→W.cell? ⟨b,o+k*5,none⟩=some (.int .i64 y0):=fun W hW=>hcc W hW 0 _ (by rw[hds];rfl)
    have r1:∀W,j4 H2 W→W.cell? ⟨b,o+k*5+1,none⟩=some (.int .i64 y1):=fun W hW=>hcc W hW 1 _ (by rw[hds];rfl)
    have r2:∀W,j4 H2 W→W.cell? ⟨b,o+k*5+2,none⟩=some (.int .i64 y2):=fun W hW=>hcc W hW 2 _ (by rw[hds];rfl)
    have r3:∀W,j4 H2 W→W.cell? ⟨b,o+k*5+3,none⟩=some (.int .i64 y3):=fun W hW=>hcc W hW 3 _ (by rw[hds];rfl)
    have r4:∀W,j4 H2 W→W.cell? ⟨b,o+k*5+4,none⟩=some (.int .i64 y4):=fun W hW=>hcc W hW 4 _ (by rw[hds];rfl)
    have hyq:At [y0,y1,y2,y3,y4] q (O7 s x q):=by
     rw[←hy]
     have:=aA2 (fun i=>if i<s.mo.length then O7 s x i else 0) (i:=q) (by omega)
     rw[if_pos hq]at this
     exact this
    have hk1:(k:Int)<((F4 s).length:Int):=by omega
    have hhb:=ct0 vv hq ((F4 s).take k) (fun j hj=>List.mem_of_mem_take hj)
    have eV2:=bt0 vv (aN7 hx.mem) hq
    have hsucc:aA9 s q ((F4 s).take (k+1))=max (aA9 s q ((F4 s).take k)) (O7 s x q):=by rw[hx.take,cT4]
    generalize O7 s x q=li at*
    generalize aA9 s q ((F4 s).take k)=hi at*
    clear hcc hxm hx hl5 hds hy
    go_upto_region 8 with fail
    have hLn:H2 wr.heap.size=none:=hwr.D6 (fh0 _)
    have hwA:=(hwr.alloc (.cells #[.int .i64 y0,.int .i64 y1,.int .i64 y2,.int .i64 y3,.int .i64 y4] 110)).put (heap_alloc_new wr _)
    have cO6:=j5.L9 hLn (.cells #[.int .i64 y0,.int .i64 y1,.int .i64 y2,.int .i64 y3,.int .i64 y4] 110 (0,0))
    have hpA:=j5.G7 H2 wr.heap.size (.cells #[.int .i64 y0,.int .i64 y1,.int .i64 y2,.int .i64 y3,.int .i64 y4] 110 (0,0))
    have spA:=sp.below ((Below.refl wr.heap.size wr).alloc (fh0 _) (.cells #[.int .i64 y0,.int .i64 y1,.int .i64 y2,.int .i64 y3,.int .i64 y4] 110))
    have hOA:H2.put wr.heap.size (.cells #[.int .i64 y0,.int .i64 y1,.int .i64 y2,.int .i64 y3,.int .i64 y4] 110 (0,0)) OB=none:=by rw[j5.F3 _ _ (by have:=(Array.getElem?_eq_some_iff.1 sp.o).1;omega)];exact sp.oH
    generalize H2.put wr.heap.size (.cells #[.int .i64 y0,.int .i64 y1,.int .i64 y2,.int .i64 y3,.int .i64 y4] 110 (0,0))=HA at*
    generalize wr.alloc (.cells #[.int .i64 y0,.int .i64 y1,.int .i64 y2,.int .i64 y3,.int .i64 y4] 110)=wA at*
    generalize wr.heap.size=LL at*
    have hwB:=hwA.put spA.o
    have bU7:=j5.L9 hOA (.cells #[.int .i64 lo,.int .i64 hi] 63 (0,0))
    have hpB:=j5.G7 HA OB (.cells #[.int .i64 lo,.int .i64 hi] 63 (0,0))
    generalize HA.put OB (.cells #[.int .i64 lo,.int .i64 hi] 63 (0,0))=HB at*
    have o1:∀W,j4 HB W→W.cell? ⟨OB,1,none⟩=some (.int .i64 hi):=fun W h=>D7 hpB h 1
    have lq:∀W,j4 HB W→W.cell? ⟨LL,q,none⟩=some (.int .i64 li):=fun W h=>(D7 (bU7 _ _ hpA) h q).trans (by
     show(([y0,y1,y2,y3,y4]:List Int).map (Value.int .i64)).toArray[q]? =_
     rw[ff0,List.getElem?_map,show([y0,y1,y2,y3,y4]:List Int)[q]? =some li from hyq];rfl)
    refine(wpIn_wide (n:=3)).1 ?_
    show Code.wpIn (FW none) 3 _ _ _ _ _
    have hnq:Nonempty (WB HB wA):=⟨⟨wA,hwB,Below.refl _ _⟩⟩
    refine X0 (C:=fun w'=>∃x:WB HB wA,w'=x.w) 7 (by kernel_rfl) (by kernel_rfl) (by kernel_rfl) ⟨⟨World.drew wA,j4.drew hwB,(Below.refl _ _).drew⟩,rfl⟩ ?_
    simp only[List.take_succ_cons,List.take_zero,ff5,ff6]
    repeat go_big_quiet_step((first|(fail)))
    refine wpQuiet_nil ?_
    clear hnq
    rintro w2 ⟨⟨_,hw2,hb2⟩,rfl⟩
    have sp2:=spA.below hb2
    obtain⟨p1,p2,p3⟩:=sp2.cells
    replace hsucc:=fe6 hsucc
    gi_wp2
    all_goals go_wp2_with fail
    all_goals go_roundw
    all_goals first
     |(simp[intOf];done)
     |(simp[intOf];omega)
     |exact⟨k+1,hlk,by go_num,by rw[hsucc.out];first|(rw[show max hi li=li by omega];exact sp2.set1 _)|(rw[show max hi li=hi by omega];exact sp2.set1 _)⟩
   ·have hke:k=(F4 s).length:=by omega
    obtain⟨q1,q2,q3,q4,q5⟩:=sp.out lo (aA9 s q (F4 s))
    obtain⟨p1,p2,p3⟩:=sp.cells
    rw[hke,hend.out]at p2
    go_wp2_with fail
    refine bodyPost_ret (N8 rfl _ _ RB 63 _ (0,0) _ rfl q1 Tryz.underlying63 rfl (by kernel_rfl)) rfl ?_
    exact⟨rfl,q2⟩
 ·have hLo:az0 s i=0:=by unfold az0;rw[if_neg he]
  have hHi:az1 s i=0:=by unfold az1;rw[if_neg he]
  rw[hLo,hHi]
  unfold aq7 at hop
  simp only[he,if_false]at hop
  have hne:(aa9 s (as8 s i) != 0)=true:=bne_iff_ne.2 he
  obtain⟨am,cm,rfl,hm1,hm2⟩:=hs.m.form
  have hml:s.mo.length≤140737488355328:=by
   obtain⟨_,_,e,_,_,h,_⟩:=hs.m
   have h2:s.mo.length*24≤140737488355328:=h
   omega
  have hwx:Hid (within i 0 (IntKind.i64.wrap ((s.mo.length:Int)-1))=as8 s i):=by
   show _=_
   rw[show IntKind.i64.wrap ((s.mo.length:Int)-1)=(s.mo.length:Int)-1 by rw[IntKind.wrap_i64];omega]
   rfl
  generalize aa9 s (as8 s i)=e0 at*
  generalize as8 s i=ok at*
  replace hop:=fe6 hop
  clear hLo hHi he hwi
  go_enter Tryz.func31,Tryz.ntmps31
  go_upto_region 1 with(refine af8 rfl _ rfl (Ext.refl hw) ?_;intro B w1 H1 hle hx hB hBw;obtain⟨hc0,hc1,hc2,hc3⟩:=V6 hB;clear hB hw;have hw1:=hx.holds)
  have rz:(w1.alloc (.cells #[.int .i64 0,.int .i64 0] 63)).heap[w1.heap.size]? =some (.cells #[.int .i64 0,.int .i64 0] 63 (0,0)):=heap_alloc_new w1 _
  have xa:=hx.alloc (.cells #[.int .i64 0,.int .i64 0] 63)
  have hRb:=hx.below.size
  have hRl:w1.heap.size<(w1.alloc (.cells #[.int .i64 0,.int .i64 0] 63)).heap.size:=by simp
  have ew5:=xa.below.size
  generalize w1.alloc (.cells #[.int .i64 0,.int .i64 0] 63)=wa at*
  generalize w1.heap.size=RB at*
  clear hx hw1
  have hwa:=xa.holds
  refine U1 (S:=(fun w'=>j4 H1 w')) 12 (by kernel_rfl) (by kernel_rfl) ?_ (fun N9=> ?_)
  ·(try dsimp only)
   (first|assumption|exact j4.drew ‹_›|exact j4.alloc ‹_› _)
  simp only[ff8,fg1,fh6,fh7,fg9,fg8,fg3,ff9,fg2]
  refine hdA 0 ?_
  refine hdA 1 ?_
  refine hdA 2 ?_
  refine hdA 3 ?_
  (try simp only[Act.put,fe7,ff1,ff2])
  refine hdR 4 [] (fun K hK=> ?_) r9.nil
  go_simp
  refine hK.out _ _ ?_ (fun I4=> ?_)
  ·(try dsimp only)
   (first|assumption|exact j4.drew ‹_›|exact j4.alloc ‹_› _)
  clear hK K N9
  refine hdA 5 ?_
  (try simp only[Act.put,fe7,ff1,ff2])
  refine hdR 6 [] (fun K hK=> ?_) r9.nil
  (go_simp;go_at_call 59;refine(au9 _ _ _ _).mono ?_;rintro e w3 ⟨rfl,rfl⟩;simp only[hwx.out])
  refine hK.out _ _ ?_ (fun F8=> ?_)
  ·(try dsimp only)
   (first|assumption|exact j4.drew ‹_›|exact j4.alloc ‹_› _)
  clear hK K I4
  (try simp only[Act.put,fe7,ff1,ff2])
  refine hdR 7 [] (fun K hK=> ?_) r9.nil
  (go_simp;go_at_call 58;refine(hop.out _ _ ‹_› hle).mono ?_;rintro e w3 ⟨_,H2,rfl,x2,rfl⟩;have hk3:j4 H1 w3:=j4.mono x2.holds (x2.le ‹_›))
  refine hK.out _ _ ?_ (fun F9=> ?_)
  ·(try dsimp only)
   (first|assumption|exact j4.drew ‹_›|exact j4.alloc ‹_› _)
  clear hK K F8
  refine hdA 8 ?_
  refine hdA 9 ?_
  refine hdA 10 ?_
  refine hdA 11 ?_
  (try simp only[Act.put,fe7,ff1,ff2])
  refine G9 (by kernel_rfl) ?_
  simp only[ff5,ff6]
  have hb5:=(xa.drew.below.trans (x2.below.mono ew5))
  have rz3:w3.heap[RB]? =some (.cells #[.int .i64 0,.int .i64 0] 63 (0,0)):=(x2.below.block RB hRl).trans rz
  have c0:w3.cell? ⟨RB,0,none⟩=some (.int .i64 0):=by rw[Lib.cell_of_heap rz3];rfl
  have c1:w3.cell? ⟨RB,1,none⟩=some (.int .i64 0):=by rw[Lib.cell_of_heap rz3];rfl
  have c2:=fun i=>Lib.frozen_of_heap rz3 i
  have q1:=M7 (i:=1) (M7 (i:=0) rz3 (.int .i64 0)) (.int .i64 0)
  go_wp2
  refine bodyPost_ret (N8 rfl _ _ RB 63 _ (0,0) _ rfl q1 Tryz.underlying63 rfl (by kernel_rfl)) rfl ?_
  exact⟨rfl,(hb5.setCell (p:=⟨RB,0,none⟩) hRb _).setCell (p:=⟨RB,1,none⟩) hRb _⟩
end
section
open Go.RowKit
theorem bw3 {α:Type} (f:α→Int):∀(l:List α) (a:Int),a≤l.foldl (fun o c=>max o (f c)) a
 |[],a=>Int.le_refl a
 |c::l,a=>Int.le_trans (Int.le_max_left a (f c)) (bw3 f l _)
theorem bw4 {α:Type} (f:α→Int):∀(l:List α) (a:Int),l.foldl (fun o c=>min o (f c)) a≤a
 |[],a=>Int.le_refl a
 |c::l,a=>Int.le_trans (bw4 f l _) (Int.min_le_left a (f c))
theorem cc8 (h:A9) (t:Int):0≤aF2 h t∧aF2 h t≤9999:=by
 unfold aF2
 split
 ·rename_i hc
  rw[fh9,fh9,decide_eq_true_eq]at hc
  obtain⟨⟨h1,h2⟩,h3⟩:=hc
  have hv:=ad3.1 h1
  have h4:0≤aC0 h t.toNat:=bw3 _ _ _
  have h5:=aJ7 hv t.toNat
  omega
 ·omega
theorem bO1 (h:A9):0≤aA1 h∧aA1 h≤9999:=by
 unfold aA1
 split
 ·rename_i hc
  rw[fh9,decide_eq_true_eq]at hc
  have h4:ap7 h≤99:=bw4 _ _ _
  omega
 ·omega
theorem cc9 (h:A9):0≤am2 h∧am2 h≤9999:=by
 cases hv:valid h with
 |true=>
  have v:=ad3.1 hv
  have h1:=cA7 v
  have h2:=v.t4
  omega
 |false=>unfold am2;rw[hv];simp
theorem cH3 (s:G5):0≤newR s∧newR s≤9999:=by
 unfold newR
 split
 ·rename_i he
  have vv:Y0 s:=by
   cases hv:Y5 s with
   |true=>exact aj5.1 hv
   |false=>unfold aa9 at he;rw[hv]at he;cases he
  have h1:=bH1 vv s.wa.length (fh0 _)
  have h2:=vv.w3
  show 0≤ax7 s s.wa.length∧ax7 s s.wa.length≤9999
  omega
 ·omega
theorem dg6 (s:G5) (t:Nat):(ab5 s t).1≤t:=by
 induction t with
 |zero=>show(-1:Int)≤0;omega
 |succ t ih=>
  show(if aD3 s t<(ab5 s t).2 then((t:Int),aD3 s t)else ab5 s t).1≤_
  split
  ·show(t:Int)≤_;omega
  ·omega
theorem ct1 (s:G5):0≤aS6 s∧aS6 s≤9999:=by
 unfold aS6
 split
 ·rename_i he
  unfold aS5 at he
  split at he
  ·rename_i hk
   have vv:Y0 s:=by
    cases hv:Y5 s with
    |true=>exact aj5.1 hv
    |false=>unfold aa9 at hk;rw[hv]at hk;cases hk
   split at he
   ·cases he
   ·rename_i h0
    have h1:=dg6 s s.mo.length
    have h2:=vv.m5
    have h3:be7 s=(ab5 s s.mo.length).1:=rfl
    omega
  ·rename_i hk;exact absurd he hk
 ·omega
theorem cT5 (h:A9) (k:Nat):(ai0 h k).1.length≤4∧∀x∈(ai0 h k).1,0≤x∧x≤3:=by
 induction k with
 |zero=>exact⟨fh3 _,fun x hx=>by cases hx⟩
 |succ k ih=>
  rw[aW5]
  unfold aH5
  split
  ·exact⟨bk7 k,bM9⟩
  ·exact ih
theorem ct2 (h:A9):(aT6 h).length≤1000∧∀x∈aT6 h,0≤x∧x≤9999:=by
 unfold aT6
 split
 ·have h1:=cT5 h (2 ^ h.ts.length)
  exact⟨by omega,fun x hx=>by have:=h1.2 x hx;omega⟩
 ·exact⟨fh3 _,fun x hx=>by cases hx⟩
theorem bO2 (s:G5):(az7 s).length≤1000∧∀x∈az7 s,0≤x∧x≤9999:=by
 unfold az7
 split
 ·rename_i hv
  have v:=aj5.1 hv
  have h6:=v.o6
  have h1:(F4 s).length≤s.wo.length:=aJ5 s s.wo.length
  refine⟨by show((F4 s).map Int.ofNat).length≤1000;rw[fg5];omega,fun x hx=> ?_⟩
  obtain⟨k,hk,rfl⟩:=List.mem_map.1 hx
  have h2:=aN7 hk
  show 0≤(k:Int)∧(k:Int)≤9999
  omega
 ·exact⟨fh3 _,fun x hx=>by cases hx⟩
theorem bW1 (s:G5) (i:Int):(0≤az0 s i∧az0 s i≤9999)∧0≤az1 s i∧az1 s i≤9999:=by
 by_cases he:aa9 s (as8 s i)=0
 ·have vv:=bm1 he
  obtain⟨his,hnz⟩:=cH2 he
  have hib:0≤i∧i≤(s.mo.length:Int)-1:=by
   have h1:within i 0 ((s.mo.length:Int)-1)=true:=his
   unfold within at h1
   rw[fh9,decide_eq_true_eq,decide_eq_true_eq]at h1
   exact h1
  have hq:i.toNat<s.mo.length:=by omega
  have h1:=bK8 vv hq
  have h2:=ct0 vv hq (F4 s) (fun _ h=>h)
  rw[cs9 vv hq hnz]at h2
  have h3:0≤as6 s i.toNat:=by
   unfold as6
   have hp:=fun k (hk:k∈F4 s)=>bO0 vv hk hq
   revert hp
   cases F4 s with
   |nil=>intro _;exact Int.le_refl 0
   |cons k l=>
    intro hp
    have key:∀(l:List Nat) (a:Int),0≤a→(∀j∈l,0≤O7 s j i.toNat)→0≤l.foldl (fun o j=>min o (O7 s j i.toNat)) a:=fun l=>by
     induction l with
     |nil=>intro a h _;exact h
     |cons j l ih=>intro a h hj;exact ih _ (by have h5:=hj j (by simp);show 0≤min a (O7 s j i.toNat);omega) fun m hm=>hj m (by simp[hm])
    exact key l _ (hp k (by simp)) fun j hj=>hp j (by simp[hj])
  unfold az0 az1
  rw[if_pos he,if_pos he]
  omega
 ·unfold az0 az1
  rw[if_neg he,if_neg he]
  omega
end
section
open Go.RowKit
attribute [local go_sem] j4.drew j4.alloc j4.drewN WB.holds Oper.semAt_some Q9 O1 J7
def ch7 (q:Int × Nat):Int:=if q.1<0 then 0 else q.1
theorem cT6 (s:G5) (t:Nat):((ab5 s t).1<0∧(ab5 s t).2=(F4 s).length)∨(0≤(ab5 s t).1∧(ab5 s t).2<(F4 s).length):=by
 induction t with
 |zero=>exact .inl ⟨by show(-1:Int)<0;omega,rfl⟩
 |succ t ih=>
  show((if aD3 s t<(ab5 s t).2 then((t:Int),aD3 s t)else ab5 s t).1<0∧_)∨_
  by_cases h:aD3 s t<(ab5 s t).2
  ·have e:ab5 s (t+1)=((t:Int),aD3 s t):=if_pos h
   rw[e]
   refine .inr ⟨by show(0:Int)≤(t:Int);omega, ?_⟩
   show aD3 s t<_
   rcases ih with⟨_,h2⟩|⟨_,h2⟩<;>omega
  ·have e:ab5 s (t+1)=ab5 s t:=if_neg h
   rw[e,if_neg h];exact ih
theorem dg7 (s:G5) (i:Nat) (l:List Nat):ay9 s i l≤l.length:=by unfold ay9;exact List.length_filter_le _ _
theorem dg8 (vm vo va:Value) (s:G5) (H:j5) (w:World) (hw:j4 H w) (hs:Sho H vm vo va s):
 Calls Tryz.prog 40 #[aq3 vm vo va s] w (I1 w (.tuple #[.int .i64 (aS6 s),.int .i64 (aS5 s)])):=by
 have hop:=fun(H1:j5) (W:World) (hW:j4 H1 W) (hle:D8 H H1)=>bI7 vm vo va s true H1 W hW (hs.mono hle)
 have hE:aS5 s=if aa9 s true=0 then(if be7 s<0 then 3 else 0)else aa9 s true:=rfl
 have hR:aS6 s=if aS5 s=0 then be7 s else 0:=rfl
 by_cases he:aa9 s true=0
 ·obtain⟨vv,hpos,_⟩:=cY7 he
  rw[if_pos he]at hE
  unfold aq7 at hop
  simp only[he,if_true]at hop
  have hA6:(F4 s).length≤6:=by have h1:=aJ5 s s.wo.length;have h2:=vv.o6;have h3:(F4 s).length≤s.wo.length:=h1;omega
  have hwm:=fun i=>cY8 (show aD3 s i=max (aY7 s i) ((F4 s).length-aY7 s i)from rfl) (cl1 s i) hA6
  have hfin:ab5 s s.mo.length=ab5 s s.mo.length:=rfl
  have hend:∀i,ay9 s i ((F4 s).take (F4 s).length)=aY7 s i:=fun i=>by rw[List.take_length];rfl
  have hinv:=cT6 s
  have htq:=fun i=>cl1 s i
  replace hop:=fe6 hop
  replace hE:=fe6 hE
  replace hR:=fe6 hR
  replace hend:=fe6 hend
  replace hwm:=fe6 hwm
  replace hinv:=fe6 hinv
  replace htq:=fe6 htq
  clear he hpos hfin
  have hm5:=vv.m5
  obtain⟨am,cm,rfl,hm1,hm2⟩:=hs.m.form
  go_enter Tryz.func40,Tryz.ntmps40
  go_upto_region 1 with(refine af8 rfl _ rfl (Ext.refl hw) ?_;intro B w1 H1 hle hx hB hBw;obtain⟨hc0,hc1,hc2,hc3⟩:=V6 hB;clear hB hw;have hw1:=hx.holds)
  go_upto_region 4 with(go_at_call 58;refine(hop.out _ _ hw1 hle).mono ?_;rintro e w' ⟨_,H2,rfl,x2,S,um,uo,ua,wv,rfl,hO⟩)
  have du0:=x2.holds
  have l2:=x2.le hw1
  have g0:=lift l2 hc0
  have x02:=hx.trans x2
  have s4:∀W,j4 H2 W→W.cell? ⟨S,4,none⟩=some wv:=fun W h=>(D7 hO.at_ h 4).trans (by unfold ac5;rw[Array.getElem?_append_left (by show _<5;omega)];rfl)
  have hWs:=hO.w
  obtain⟨aw,cw,rfl,_,_⟩:=hWs.form
  have bl9:((F4 s).map (ak0 s)).length=(F4 s).length:=by rw[fg5]
  rw[bl9]at s4 hWs
  clear hO hc0 hc1 hc2 hc3 hop x2
  refine E8 H2 (by kernel_rfl) (by kernel_rfl) du0 (fun hne=> ?_)
  repeat go_big_quiet_step((first|(fail)))
  refine wpQuiet_nil ?_
  rintro⟨w2,hw2,hb2⟩
  clear hne
  have x03:=x02.step (hb2.mono x02.below.size) hw2
  clear x02 du0
  go_wp2
  go_loopw [6,7,8,9,11,12,29,37] (fun bv lv _ _ _ _ iv _ wq=>∃t:Nat,t≤s.mo.length∧iv= .int .i64 (t:Int)∧bv= .int .i64 (ch7 (ab5 s t))∧lv= .int .i64 (((ab5 s t).2:Nat):Int)∧Ext w H wq H2) (fun _ _ _ _ _ _ iv _ _=>s.mo.length-(intOf iv).toNat)
  case atStart=>exact⟨0,fh3 _,rfl,rfl,rfl,x03⟩
  case round=>
   obtain⟨t,ht,rfl,rfl,rfl,xr⟩:=hrel
   have hwr:=xr.holds
   have ht0:(0:Int)≤(t:Int):=by omega
   by_cases hlt:t<s.mo.length
   ·have htI:(t:Int)<(s.mo.length:Int):=by omega
    have ht5:(t:Int)<5:=by omega
    obtain⟨m1,m2⟩:=hwm.out t
    have eV3:t<5:=by omega
    have hTq:=htq.out t
    have hst:ab5 s (t+1)=if aD3 s t<(ab5 s t).2 then((t:Int),aD3 s t)else ab5 s t:=rfl
    have hiv:=hinv.out t
    have hen:=hend.out t
    go_wp2
    go_loopw [9,11,37] (fun fv _ jv wq=>∃k:Nat,k≤(F4 s).length∧jv= .int .i64 (k:Int)∧fv= .int .i64 ((ay9 s t ((F4 s).take k):Nat):Int)∧Ext w H wq H2) (fun _ _ jv _=>(F4 s).length-(intOf jv).toNat)
    case atStart=>exact⟨0,fh3 _,rfl,rfl,xr⟩
    case round=>
     clear xr hwr
     obtain⟨k,hk,rfl,rfl,xr⟩:=hrel
     have hwr:=xr.holds
     have hk0:(0:Int)≤(k:Int):=by omega
     by_cases hlk:k<(F4 s).length
     ·obtain⟨x,hx⟩:=At.mk hlk
      have hxm:At ((F4 s).map (ak0 s)) k (ak0 s x):=by unfold At at*;rw[List.getElem?_map,hx];rfl
      obtain⟨b,o,c,ds,he,⟨hl5,hds,hI5⟩,hcc⟩:=hWs.get hxm
      rw[bl9]at he
      cases he
      obtain⟨y0,y1,y2,y3,y4,hy⟩:=cT0 hl5
      rw[hy]at hds hI5
      have r0:∀W,j4 H2 W→W.cell? ⟨b,o+k*5,none⟩=some (.int .i64 y0):=fun W hW=>hcc W hW 0 _ (by rw[hds];rfl)
      have r1:∀W,j4 H2 W→W.cell? ⟨b,o+k*5+1,none⟩=some (.int .i64 y1):=fun W hW=>hcc W hW 1 _ (by rw[hds];rfl)
      have r2:∀W,j4 H2 W→W.cell? ⟨b,o+k*5+2,none⟩=some (.int .i64 y2):=fun W hW=>hcc W hW 2 _ (by rw[hds];rfl)
      have r3:∀W,j4 H2 W→W.cell? ⟨b,o+k*5+3,none⟩=some (.int .i64 y3):=fun W hW=>hcc W hW 3 _ (by rw[hds];rfl)
      have r4:∀W,j4 H2 W→W.cell? ⟨b,o+k*5+4,none⟩=some (.int .i64 y4):=fun W hW=>hcc W hW 4 _ (by rw[hds];rfl)
      have hyq:At [y0,y1,y2,y3,y4] t (O7 s x t):=by
       rw[←hy]
       have:=aA2 (fun i=>if i<s.mo.length then O7 s x i else 0) (i:=t) (by omega)
       rw[if_pos hlt]at this
       exact this
      have hk1:(k:Int)<((F4 s).length:Int):=by omega
      have htl:=dg7 s t ((F4 s).take k)
      have eV4:((F4 s).take k).length≤6:=by rw[fg6];omega
      have hsucc:ay9 s t ((F4 s).take (k+1))=ay9 s t ((F4 s).take k)+(if O7 s x t=0 then 1 else 0):=by rw[hx.take,cx8]
      generalize O7 s x t=li at*
      generalize ay9 s t ((F4 s).take k)=T at*
      clear hcc hxm hx hl5 hds hy
      go_upto_region 12 with fail
      have hLn:H2 wr.heap.size=none:=hwr.D6 (fh0 _)
      have hwA:=(hwr.alloc (.cells #[.int .i64 y0,.int .i64 y1,.int .i64 y2,.int .i64 y3,.int .i64 y4] 110)).put (heap_alloc_new wr _)
      have hpA:=j5.G7 H2 wr.heap.size (.cells #[.int .i64 y0,.int .i64 y1,.int .i64 y2,.int .i64 y3,.int .i64 y4] 110 (0,0))
      have xA:=xr.alloc (.cells #[.int .i64 y0,.int .i64 y1,.int .i64 y2,.int .i64 y3,.int .i64 y4] 110)
      generalize H2.put wr.heap.size (.cells #[.int .i64 y0,.int .i64 y1,.int .i64 y2,.int .i64 y3,.int .i64 y4] 110 (0,0))=HA at*
      generalize wr.alloc (.cells #[.int .i64 y0,.int .i64 y1,.int .i64 y2,.int .i64 y3,.int .i64 y4] 110)=wA at*
      generalize wr.heap.size=LL at*
      have lq:wA.cell? ⟨LL,t,none⟩=some (.int .i64 li):=(D7 hpA hwA t).trans (by
       show(([y0,y1,y2,y3,y4]:List Int).map (Value.int .i64)).toArray[t]? =_
       rw[ff0,List.getElem?_map,show([y0,y1,y2,y3,y4]:List Int)[t]? =some li from hyq];rfl)
      by_cases h0:li=0
      ·rw[if_pos h0]at hsucc
       replace hsucc:=fe6 hsucc
       have hg:(li==0)=true:=beq_iff_eq.2 h0
       clear h0
       go_wp2
       go_roundw
       case rel=>exact⟨k+1,hlk,by go_num,by rw[hsucc.out];go_num,xA⟩
       case measure=>simp[intOf];omega
      ·rw[if_neg h0]at hsucc
       replace hsucc:=fe6 hsucc
       have hg:(li==0)=false:=beq_eq_false_iff_ne.2 h0
       clear h0
       go_wp2
       go_roundw
       case rel=>exact⟨k+1,hlk,by go_num,by rw[hsucc.out];rfl,xA⟩
       case measure=>simp[intOf];omega
     ·have hke:k=(F4 s).length:=by omega
      have hnk:¬(k:Int)<((F4 s).length:Int):=by omega
      rw[hke,hen]
      rw[hke]at hnk
      clear hke hk hlk hk0
      generalize ab5 s t=qq at*
      obtain⟨q1,q2⟩:=qq
      generalize aY7 s t=T at*
      generalize aD3 s t=Wt at*
      simp only at hst hiv
      replace hst:=fe6 hst
      go_upto_region 16 with fail
      by_cases hwl:Wt<q2
      ·have hwi:(Wt:Int)<(q2:Int):=by omega
       have aH3:=hst.out
       rw[if_pos hwl]at aH3
       replace aH3:=fe6 aH3
       clear hst
       go_wp2
       go_roundw
       case rel=>exact⟨t+1,hlt,by go_num,by rw[aH3.out];unfold ch7;rw[if_neg (by show ¬(t:Int)<0;omega)],by rw[aH3.out],xr⟩
       case measure=>simp[intOf];omega
      ·have hwi:¬(Wt:Int)<(q2:Int):=by omega
       have aH3:=hst.out
       rw[if_neg hwl]at aH3
       replace aH3:=fe6 aH3
       clear hst
       go_wp2
       go_roundw
       case rel=>exact⟨t+1,hlt,by go_num,by rw[aH3.out],by rw[aH3.out],xr⟩
       case measure=>simp[intOf];omega
   ·have hte:t=s.mo.length:=by omega
    have hnt:¬(t:Int)<(s.mo.length:Int):=by omega
    rw[hte]at hnt ⊢
    have hof:be7 s=(ab5 s s.mo.length).1:=rfl
    have hiv:=hinv.out s.mo.length
    rw[hof]at hE hR
    generalize ab5 s s.mo.length=qq at*
    obtain⟨q1,q2⟩:=qq
    simp only at hE hR hiv
    clear hte hof
    rcases hiv with⟨h1,h2⟩|⟨h1,h2⟩
    ·have hE1:aS5 s=3:=by rw[hE.out,if_pos h1]
     have hR1:aS6 s=0:=by rw[hR.out,hE1];rfl
     rw[hE1,hR1,h2]
     go_wp2_with fail
     refine bodyPost_ret (results_tmp2 rfl _ _ _) rfl ?_
     exact⟨rfl,xr.below⟩
    ·have hE1:aS5 s=0:=by rw[hE.out,if_neg (by omega)]
     have hR1:aS6 s=q1:=by rw[hR.out,hE1];rfl
     have hb:ch7 (q1,q2)=q1:=by unfold ch7;exact if_neg (by show ¬q1<0;omega)
     have hqe:((q2:Int)==((F4 s).length:Int))=false:=by rw[beq_eq_false_iff_ne];omega
     rw[hE1,hR1,hb]
     go_wp2_with fail
     refine bodyPost_ret (results_tmp2 rfl _ _ _) rfl ?_
     exact⟨rfl,xr.below⟩
 ·rw[if_neg he]at hE
  rw[hE,if_neg he]at hR
  rw[hR,hE]
  unfold aq7 at hop
  simp only[he,if_false]at hop
  have hne:(aa9 s true != 0)=true:=bne_iff_ne.2 he
  generalize aa9 s true=e at*
  replace hop:=fe6 hop
  clear hR he hE
  go_enter Tryz.func40,Tryz.ntmps40
  go_upto_region 1 with(refine af8 rfl _ rfl (Ext.refl hw) ?_;intro B w1 H1 hle hx hB hBw;obtain⟨hc0,hc1,hc2,hc3⟩:=V6 hB;clear hB hw;have hw1:=hx.holds)
  go_wp2_with(first|(go_at_call 58;refine(hop.out _ _ hw1 hle).mono ?_;rintro e w' ⟨_,H2,rfl,x2,rfl⟩))
  refine bodyPost_ret (results_tmp2 rfl _ _ _) rfl ?_
  exact⟨rfl,hx.below.trans (x2.below.mono hx.below.size)⟩
end
end Go.Proofs.YtbliehinagkldaaGreatDoor
