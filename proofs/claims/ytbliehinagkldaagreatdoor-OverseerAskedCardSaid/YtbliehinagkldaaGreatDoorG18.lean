/- Lemmas and walks on which the claims of this seat lean (names and blanks made short by a program): OLwD OLwG OLBook OLwK OLwI OLwJ OLwL OLCor. -/
import Derived.Test.YtbliehinagkldaaGreatDoorG02
import Derived.Test.YtbliehinagkldaaGreatDoorG03
import Derived.Test.YtbliehinagkldaaGreatDoorG14
import Derived.Test.YtbliehinagkldaaGreatDoorG17

set_option linter.all false
set_option maxRecDepth 100000
set_option maxHeartbeats 16000000
open Go.Lib renaming hid → fe6
open List renaming setIfInBounds_toArray → fe7, set_cons_zero → ff1, set_cons_succ → ff2, getD_eq_getElem?_getD → ff3, length_append → ff4, drop_succ_cons → ff5, drop_zero → ff6, length_cons → ff8, nil_append → ff9, length_nil → fg1, cons_append → fg2, push_toArray → fg3, length_map → fg5
open Array renaming replicate_zero → fg8, replicate_succ → fg9
open Nat renaming le_refl → fh0, ne_of_lt → fh5, reduceAdd → fh6, reduceSub → fh7
open Bool renaming and_eq_true → fh9
namespace Go.Proofs.YtbliehinagkldaaGreatDoor
section
open Go.RowKit
attribute [local go_sem] j4.drew j4.alloc j4.drewN WB.holds Oper.semAt_some Q9 O1 J7
theorem cD7 {P:Program} {fn:Func} {p q r s:Tmp} {ty:TypeId} (h:fn.results= #[.tmp p,.cell q ty,.tmp r,.tmp s]) (tmps:Array Value) (w:World) (g:Nat) (t:TypeId) (cs:Array Value) (fr:Nat × Nat) (d:TypeDesc)
 (hq:tmps.getD q undef= .pointer (some ⟨g,0,none⟩)) (hg:w.heap[g]? =some (.cells cs t fr))
 (hu:P.underlying ty=some d) (hd:(match d with| .struct _| .array _ _=>true|_=>false)=true) (hi:(P.info? ty).map (·.size)=some cs.size):
 (results fn tmps).run P w= .ok (.tuple #[tmps.getD p undef,.agg cs,tmps.getD r undef,tmps.getD s undef]) w:=by
 have hq':tmps[q]?.getD undef= .pointer (some ⟨g,0,none⟩):=by simpa using hq
 have hl:=run_loadVar_row (P:=P) w g t ty cs fr d hg hu hd hi
 simp[results,h,hq',asAddr,Sem.run_bind,hl]
theorem eb3 (t:D5):∀l:List ByteArray,(M6 t l).ans.length=l.length:=ad1 rfl fun l s ih=>by
 rw[bj1,ff4,ih,ff4];rfl
theorem dk7 {nm:Nat} {x:List Int} (h:ai5 nm x=true):x.length=nm:=by unfold ai5 at h;simp at h;exact h.1
theorem by2 {t:D5} (v:F6 t=true):t.s.mo.length≤5∧t.s.wo.length≤6∧t.s.wa.length≤3∧∀x∈t.s.wo,x.length≤5:=by
 unfold F6 at v
 rw[fh9]at v
 have s:=aj5.1 v.2
 exact⟨s.m5,s.o6,s.w3,fun x hx=>by rw[dk7 (List.all_eq_true.1 s.wo x hx)];exact s.m5⟩
theorem cD8 {t:D5} (v:F6 t=true):aL1 t=false:=by
 obtain⟨s1,s2,s3,s4⟩:=by2 v
 unfold F6 at v
 rw[fh9]at v
 have h:=ad3.1 v.1
 have h1:=h.m3
 have h2:=h.t4
 have h3:=h.b5
 have hw:(t.s.wo.any fun x=>decide (40<x.length))=false:=List.any_eq_false.2 fun x hx=>by have:=s4 x hx;simp;omega
 unfold aL1 bs6 bA0
 rw[hw,decide_eq_false (by omega),decide_eq_false (by omega),decide_eq_false (by omega),decide_eq_false (by omega),decide_eq_false (by omega),decide_eq_false (by omega)]
 rfl
abbrev Z8:Array Value:= #[.slice none 0 0,.slice none 0 0,.slice none 0 0,.int .i64 0,.slice none 0 0,.slice none 0 0,.slice none 0 0,.int .i64 0]
theorem aD1 (vm vb vt um uo ua lv:Value) (t:D5) (l:List ByteArray) (v:F6 t=true) (bn6:l.length≤24) (hsz:∀s∈l,s.size≤900) (H:j5) (dr:Doors H) (w:World) (hw:j4 H w) (ht:Twn H vm vb vt um uo ua t) (hs:Sl H lv l):
 Calls Tryz.prog 23 #[ah0 vm vb vt um uo ua t,lv] w (Post w H fun u H'=>∃va vt vb,u= .tuple #[va,vt,vb,.bool true]∧Sl H' va (Y1 t l)∧bt6 H' vt (V5 t l)∧Sl H' vb (O0 t l)):=by
 obtain⟨z1,z2,z3,z4⟩:=by2 v
 have hE:aJ8 t l=0:=aI8 v bn6
 have hA:(Y1 t l).length=l.length:=by
  rw[ap6 v bn6]
  exact eb3 t l
 have hB:(O0 t l).length≤l.length:=by
  rw[aS9 v bn6]
  have:=db0 t (aa4 (l.map A8))
  rw[bt8,fg5]at this
  exact this
 have hV:F6 (V5 t l)=true:=by rw[aK0 v bn6];exact cm4 v _
 have hG:aL1 (V5 t l)=false:=cD8 hV
 have cC:=fun(H':j5) (W:World) (hW:j4 H' W) (hle:D8 H H')=>cV8 _ _ _ _ _ _ t ⟨by omega,by omega,by omega,fun x hx=>by have:=z4 x hx;omega⟩ H' W hW (ht.mono hle)
 have cR:=fun(vm vb vt um uo ua lv:Value) (H':j5) (W:World) (hW:j4 H' W) (hle:D8 H H') (h1:Twn H' vm vb vt um uo ua t) (h2:Sl H' lv l)=>cw3 vm vb vt um uo ua lv t l hsz H' (dr.mono hle) W hW h1 h2
 have cH:=fun(vm vb vt um uo ua:Value) (H':j5) (W:World) (hW:j4 H' W) (h1:Twn H' vm vb vt um uo ua (V5 t l))=>bR3 vm vb vt um uo ua _ H' W hW h1
 have cK:=fun(vm vb vt um uo ua:Value) (H':j5) (W:World) (hW:j4 H' W) (h1:Twn H' vm vb vt um uo ua (V5 t l))=>bd5 vm vb vt um uo ua _ H' W hW h1
 rw[hV]at cK
 rw[show aH2 true=0 from rfl]at cK
 rw[hG]at cH
 unfold bY4 at cR
 rw[hE]at cR
 have hbS:Hid ((([]:List ByteArray).length+l.length)*Enc.M4 ByteArray≤140737488355328):=by show _≤_;simp only[Enc.M4,fg1];omega
 have aH8:Hid (([]:List ByteArray).length+l.length≤9223372036854775807):=by show _≤_;simp only[fg1];omega
 clear hE hV hG z1 z2 z3 z4 v
 generalize Y1 t l=A at*
 generalize V5 t l=T at*
 generalize O0 t l=K at*
 replace hA:=fe6 hA
 replace cC:=fe6 cC
 replace cR:=fe6 cR
 replace cH:=fe6 cH
 replace cK:=fe6 cK
 replace hsz:=fe6 hsz
 have bR1:Hid True:=fe6 trivial
 obtain⟨al,cl,rfl,hl1,hl2⟩:=hs.form
 obtain⟨aA,hAz⟩:∃a,Hid (A.length=a):=⟨_,rfl⟩
 go_enter Tryz.func23,Tryz.ntmps23
 go_upto_region 1 with(refine af8 rfl _ rfl (Ext.refl hw) ?_;intro B w1 H1 hle hx hB hBw;obtain⟨hc0,hc1,hc2,hc3,hc4,O8,hc6,O9⟩:=I5 hB;clear hB hw;have hw1:=hx.holds)
 have cR0:=J4.new hx Z8 32
 generalize w1.alloc (.cells Z8 32)=wA at*
 generalize w1.heap.size=R at*
 clear hx hw1
 have xA:=cR0.x
 have hwA:=xA.holds
 have dlr:=hs.mono hle
 go_upto_region 2 with(first
  |(have hgd:=bR1;clear hgd;at_builtin;go_must (refine aj2 (w0:=w) (H0:=H) bi0 rfl _ _ rfl (x2.alloc _) rfl (Own.emptyAt (heap_alloc_new _ _) x2.below.size (x2.holds.D6 (fh0 _))) rfl sl2 hbS.out aH8.out ?_);intro v3 w3 o3 x3 hw3 g3;rw[ff9]at o3;have c3':J4 w H R 32 w3 H2 Z8:=c2.cw0 (v:= .slice (some ⟨w2.heap.size,0,none⟩) 0 0) g3 (fun e=>by cases e;exact Nat.lt_irrefl _ c2.lt) (fun q e=>by cases e;exact x2.below.size) (fun q e=>by cases e;exact x2.holds.D6 (fh0 _));obtain⟨H3,x33,l3,s3,n3⟩:=o3.close x3;have c3:J4 w H R 32 w3 H3 Z8:=⟨x33,c3'.at_,c3'.ob,(n3 R (o3.P8 c3'.at_ (by decide))).trans c3'.oH⟩;clear bR1 c3')
  |(go_at_call 47;refine(cC.out _ _ hwA hle).mono ?_;rintro e w2 ⟨u,H2,rfl,y2,ym,yb,yt,zm,zo,za,rfl,tw2⟩;have x2:=xA.trans y2;have sl2:=dlr.mono (y2.le hwA);have c2:=cR0.ext y2)
  |(go_at_call 50;go_must (refine(cR.out _ _ _ _ _ _ _ _ _ x33.holds (hle.trans ((y2.le hwA).trans l3)) (tw2.mono l3) s3).mono ?_);rintro e w4 ⟨u,H4,rfl,y4,va,vt,vb,e,rfl,sA,⟨xm,xb,xt,xp,xq,xr,rfl,tw4⟩,sB,rfl⟩;obtain⟨pA,qA,eA,_,_⟩:=sA.form;rw[hA.out]at eA;subst eA;obtain⟨pB,qB,rfl,_,_⟩:=sB.form;obtain⟨p0,q0,rfl,_,_⟩:=tw4.h.m.form;obtain⟨p1,q1,rfl,_,_⟩:=tw4.h.b.form;obtain⟨p2,q2,rfl,_,_⟩:=tw4.h.t.form;obtain⟨p3,q3,rfl,_,_⟩:=tw4.s.m.form;obtain⟨p4,q4,rfl,_,_⟩:=tw4.s.o.form;obtain⟨p5,q5,rfl,_,_⟩:=tw4.s.a.form;have x4:=x33.trans y4;have hw4:=x4.holds))
 have c4:=c3.ext y4
 have hR5:(j5.put H4 (World.heap w4).size (.cells #[.slice p0 T.h.ms.length q0,.slice p1 T.h.bs.length q1,.slice p2 T.h.ts.length q2,.int .i64 T.h.ch,.slice p3 T.s.mo.length q3,.slice p4 T.s.wo.length q4,.slice p5 T.s.wa.length q5,.int .i64 T.s.fr] 32 (0,0))) R=none:=(j5.F3 _ _ (fh5 c4.lt)).trans c4.oH
 have hAt:=(c4.alloc (.cells #[.slice p0 T.h.ms.length q0,.slice p1 T.h.bs.length q1,.slice p2 T.h.ts.length q2,.int .i64 T.h.ch,.slice p3 T.s.mo.length q3,.slice p4 T.s.wo.length q4,.slice p5 T.s.wa.length q5,.int .i64 T.s.fr] 32)).at_
 have hlt:=(c4.alloc (.cells #[.slice p0 T.h.ms.length q0,.slice p1 T.h.bs.length q1,.slice p2 T.h.ts.length q2,.int .i64 T.h.ch,.slice p3 T.s.mo.length q3,.slice p4 T.s.wo.length q4,.slice p5 T.s.wa.length q5,.int .i64 T.s.fr] 32)).lt
 have hob:=c4.ob
 have hn_:H4 (World.heap w4).size=none:=(x4).holds.D6 (fh0 _)
 have xz:=((x4).alloc (.cells #[.slice p0 T.h.ms.length q0,.slice p1 T.h.bs.length q1,.slice p2 T.h.ts.length q2,.int .i64 T.h.ch,.slice p3 T.s.mo.length q3,.slice p4 T.s.wo.length q4,.slice p5 T.s.wa.length q5,.int .i64 T.s.fr] 32)).freeze (x4).below.size (heap_alloc_new w4 _)
 have lz:=j5.L9 hn_ (.cells #[.slice p0 T.h.ms.length q0,.slice p1 T.h.bs.length q1,.slice p2 T.h.ts.length q2,.int .i64 T.h.ch,.slice p3 T.s.mo.length q3,.slice p4 T.s.wo.length q4,.slice p5 T.s.wa.length q5,.int .i64 T.s.fr] 32 (0,0))
 have hput:=j5.G7 H4 (World.heap w4).size (.cells #[.slice p0 T.h.ms.length q0,.slice p1 T.h.bs.length q1,.slice p2 T.h.ts.length q2,.int .i64 T.h.ch,.slice p3 T.s.mo.length q3,.slice p4 T.s.wo.length q4,.slice p5 T.s.wa.length q5,.int .i64 T.s.fr] 32 (0,0))
 clear hn_
 generalize j5.put H4 (World.heap w4).size (.cells #[.slice p0 T.h.ms.length q0,.slice p1 T.h.bs.length q1,.slice p2 T.h.ts.length q2,.int .i64 T.h.ch,.slice p3 T.s.mo.length q3,.slice p4 T.s.wo.length q4,.slice p5 T.s.wa.length q5,.int .i64 T.s.fr] 32 (0,0))=H5 at*
 generalize World.alloc w4 (.cells #[.slice p0 T.h.ms.length q0,.slice p1 T.h.bs.length q1,.slice p2 T.h.ts.length q2,.int .i64 T.h.ch,.slice p3 T.s.mo.length q3,.slice p4 T.s.wo.length q4,.slice p5 T.s.wa.length q5,.int .i64 T.s.fr] 32)=wz at*
 generalize(World.heap w4).size=C at*
 obtain⟨d0,d1,d2,d3,d4,d5,d6,d7⟩:=I5 (t:=T) hput
 have hwz:=xz.holds
 have Q0:=tw4.mono lz
 have hBi:(K.length:Int)≤(l.length:Int):=by omega
 clear c4 c3 c2 cR0 x4 hw4 y4 x33 l3 s3 n3 o3 x3 hw3 g3 sl2 dlr tw2 y2 x2 cC cR hc0 hc1 hc2 hc3 hc4 O8 hc6 O9
 refine U1 (S:=(fun w'=>j4 H5 w')) 32 (by kernel_rfl) (by kernel_rfl) ?_ (fun N9=> ?_)
 ·(try dsimp only)
  (first|assumption|exact j4.drew ‹_›|exact j4.alloc ‹_› _)
 simp only[ff8,fg1,fh6,fh7,fg9,fg8,fg3,ff9,fg2]
 have xB:=xz.drew
 have rB:M9 R 32 wz.drew (.slice none 0 0) (.slice none 0 0) (.slice none 0 0) (.int .i64 0) (.slice none 0 0) (.slice none 0 0) (.slice none 0 0) (.int .i64 0):=⟨hAt⟩
 generalize World.drew wz=wB at*
 refine hdA 0 ?_
 refine hdA 1 ?_
 refine hdA 2 ?_
 refine hdA 3 ?_
 refine hdA 4 ?_
 (try simp only[Act.put,fe7,ff1,ff2])
 refine hdA 5 ?_
 refine hdA 6 ?_
 refine hdA 7 ?_
 refine hdA 8 ?_
 refine hdA 9 ?_
 (try simp only[Act.put,fe7,ff1,ff2])
 refine hdA 10 ?_
 refine hdA 11 ?_
 refine hdA 12 ?_
 refine hdA 13 ?_
 refine hdA 14 ?_
 (try simp only[Act.put,fe7,ff1,ff2])
 refine hdA 15 ?_
 refine hdA 16 ?_
 refine hdA 17 ?_
 refine hdA 18 ?_
 refine hdA 19 ?_
 (try simp only[Act.put,fe7,ff1,ff2])
 refine hdA 20 ?_
 (try simp only[Act.put,fe7,ff1,ff2])
 refine hdR 21 [] (fun K hK=> ?_) r9.nil
 (go_simp;go_at_call 53;go_must (refine(cH.out _ _ _ _ _ _ H5 _ xB.holds Q0).mono ?_);rintro e w6 ⟨rfl,hb6⟩;have x6:=xB.step (hb6.mono xB.below.size) (xB.holds.below hb6);have r6:=rB.below hb6 rB.lt)
 refine hK.out _ _ (x6.holds) (fun I4=> ?_)
 clear hK K N9
 refine hdA 22 ?_
 refine hdA 23 ?_
 refine hdA 24 ?_
 refine hdA 25 ?_
 (try simp only[Act.put,fe7,ff1,ff2])
 refine hdR 26 [] (fun K hK=> ?_) r9.nil
 (go_simp;go_at_call 49;go_must (refine(cK.out _ _ _ _ _ _ H5 _ x6.holds Q0).mono ?_);rintro e w7 ⟨rfl,hb7⟩;have x7:=x6.step (hb7.mono x6.below.size) (x6.holds.below hb7);have r7:=r6.below hb7 r6.lt)
 refine hK.out _ _ (x7.holds) (fun F8=> ?_)
 clear hK K I4
 refine hdA 27 ?_
 refine hdA 28 ?_
 refine hdA 29 ?_
 (try simp only[Act.put,fe7,ff1,ff2])
 refine hdR 30 [] (fun K hK=> ?_) r9.nil
 obtain⟨e0,e1,e2,e3,e4,e5,e6,e7,ef⟩:=r7.cells
 have rz:=r7.set (.slice p0 T.h.ms.length q0) (.slice p1 T.h.bs.length q1) (.slice p2 T.h.ts.length q2) (.int .i64 T.h.ch) (.slice p3 T.s.mo.length q3) (.slice p4 T.s.wo.length q4) (.slice p5 T.s.wa.length q5) (.int .i64 T.s.fr)
 have xw:=Ext.aC3 x7 hob hR5 (.slice p0 T.h.ms.length q0) (.slice p1 T.h.bs.length q1) (.slice p2 T.h.ts.length q2) (.int .i64 T.h.ch) (.slice p3 T.s.mo.length q3) (.slice p4 T.s.wo.length q4) (.slice p5 T.s.wa.length q5) (.int .i64 T.s.fr)
 go_simp
 refine hK.out _ _ (xw.holds) (fun F9=> ?_)
 clear hK K F8
 refine hdA 31 ?_
 (try simp only[Act.put,fe7,ff1,ff2])
 refine G9 (by kernel_rfl) ?_
 simp only[ff5,ff6]
 go_wp2_with fail
 refine bodyPost_ret (cD7 rfl _ _ R 32 _ (0,0) _ rfl rz.at_ Tryz.underlying32 rfl (by kernel_rfl)) rfl ?_
 exact⟨_,H5,rfl,xw,_,_,_,rfl,by rw[←hA.out]at*;exact sA.mono lz,⟨_,_,_,_,_,_,rfl,Q0⟩,sB.mono lz⟩
end
section
open Go.RowKit
attribute [local go_sem] j4.drew j4.alloc j4.drewN WB.holds Oper.semAt_some Q9 O1 J7
theorem bn7 {H:j5}:∀{xs:List ByteArray},(∀x∈xs,x.size≤140737488355328)→P6 H xs (xs.map Value.string)
 |[],_=>rfl
 |x::xs,h=>⟨[.string x],_,rfl,⟨rfl,h x (by simp)⟩,bn7 fun y hy=>h y (by simp[hy])⟩
theorem aN5 {w0 w:World} {H0 H:j5} (hx:Ext w0 H0 w H) (xs:List ByteArray) (h:∀x∈xs,x.size≤1000000) (hn:xs.length≤100000):
 ∃H2,D8 H H2∧Ext w0 H0 (w.alloc (.cells (xs.map Value.string).toArray 9)) H2∧Sl H2 (.slice (some ⟨w.heap.size,0,none⟩) xs.length xs.length) xs:=
 Ext.lit hx (bn7 fun x hx=>by have:=h x hx;omega) _ (by show _*16≤_;omega) (by omega)
theorem dL7 {w0 w:World} {H0 H:j5} (hx:Ext w0 H0 w H):∃H2,D8 H H2∧Ext w0 H0 (w.alloc (.cells #[.string ⟨#[115,117,114,101]⟩,.string ⟨#[115,116,111,112,115,32,48,32,49]⟩,.string ⟨#[116,111,108,100]⟩,.string ⟨#[116,114,97,105,110,32,52,48]⟩,.string ⟨#[98,117,110,100,108,101,32,50,32,50,32,49]⟩,.string ⟨#[108,105,110,101,32,49,32,105,115,32,110,111,116]⟩,.string ⟨#[108,105,110,101,32,51,32,105,115,32,110,111,116]⟩,.string ⟨#[97,116,32,51,32,116,111,108,100]⟩,.string ⟨#[98,114,111,107,101,32,51]⟩,.string ⟨#[99,97,115,116,32,51]⟩,.string ⟨#[108,105,110,101,32,56,32,105,115,32,99,97,115,116,32,51]⟩,.string ⟨#[115,97,105,108]⟩] 9)) H2∧Sl H2 (.slice (some ⟨w.heap.size,0,none⟩) 12 12) exL:=aN5 hx exL (by decide) (by decide)
theorem dL8 {w0 w:World} {H0 H:j5} (hx:Ext w0 H0 w H):∃H2,D8 H H2∧Ext w0 H0 (w.alloc (.cells #[.string ⟨#[49]⟩,.string ⟨#[111,107]⟩,.string ⟨#[48]⟩,.string ⟨#[111,107]⟩,.string ⟨#[111,107]⟩,.string ⟨#[111,107,32,49,58,110,111]⟩,.string ⟨#[111,107,32,51,58,110,111,32,52,58,110,111]⟩,.string ⟨#[110,111,116,104,105,110,103]⟩,.string ⟨#[111,107]⟩,.string ⟨#[110,111]⟩,.string ⟨#[111,107,32,57,58,111,107]⟩,.string ⟨#[119,104,97,116]⟩] 9)) H2∧Sl H2 (.slice (some ⟨w.heap.size,0,none⟩) 12 12) exA:=aN5 hx exA (by decide) (by decide)
theorem dL9 {w0 w:World} {H0 H:j5} (hx:Ext w0 H0 w H):∃H2,D8 H H2∧Ext w0 H0 (w.alloc (.cells #[.string ⟨#[99,97,115,116,32,51]⟩,.string ⟨#[99,97,115,116,32,51]⟩] 9)) H2∧Sl H2 (.slice (some ⟨w.heap.size,0,none⟩) 2 2) exK:=aN5 hx exK (by decide) (by decide)
theorem aO6 (H:j5) (dr:Doors H) (w:World) (hw:j4 H w):Calls Tryz.prog 18 #[] w (I1 w (.bool true)):=by
 obtain⟨fA,fK,fE,f1,f2,f3,f4,f5⟩:=dL4
 have cR:=fun(vm vb vt um uo ua lv:Value) (H':j5) (W:World) (hW:j4 H' W) (hle:D8 H H') (h1:Twn H' vm vb vt um uo ua exO) (h2:Sl H' lv exL)=>cw3 vm vb vt um uo ua lv exO exL (by decide) H' (dr.mono hle) W hW h1 h2
 unfold bY4 at cR
 rw[fE,fA,fK]at cR
 generalize V5 exO exL=T at*
 obtain⟨m0,hm0⟩:=At.mk (show 0<T.h.ms.length by omega)
 obtain⟨p3,hp3⟩:=At.mk (show 3<T.s.mo.length by omega)
 have g3:m0.s=0:=by rw[←f3,ff3,show T.h.ms[0]? =some m0 from hm0];rfl
 have g5:p3.us=2:=by rw[←f5,ff3,show T.s.mo[3]? =some p3 from hp3];rfl
 replace cR:=fe6 cR
 clear f3 f5 fE fA fK dr
 go_enter Tryz.func18,Tryz.ntmps18
 go_upto_region 2 with(first
  |(go_at_call 52;refine(cg6 _ _ hw).mono ?_;rintro e w1 ⟨_,H1,rfl,x1,vm,vb,vt,um,uo,ua,rfl,tw⟩)
  |(go_at_call 50;obtain⟨H2,l2,x2,s2⟩:=dL7 x1;go_must (refine(cR.out _ _ _ _ _ _ _ _ _ x2.holds ((x1.le hw).trans l2) (tw.mono l2) s2).mono ?_);rintro e w4 ⟨u,H4,rfl,y4,va,vt',vk,e,rfl,sA,⟨xm,xb,xt,xp,xq,xr,rfl,tw4⟩,sB,rfl⟩;obtain⟨pA,qA,rfl,_,_⟩:=sA.form;obtain⟨pB,qB,rfl,_,_⟩:=sB.form;obtain⟨b0,o0,q0,rfl,_,_,_,i2⟩:=tw4.h.m.aw2 hm0;obtain⟨p1,q1,rfl,_,_⟩:=tw4.h.b.form;obtain⟨p2,q2,rfl,_,_⟩:=tw4.h.t.form;obtain⟨b3,o3,q3,rfl,_,_,i3,_⟩:=tw4.s.m.mld hp3;obtain⟨p4,q4,rfl,_,_⟩:=tw4.s.o.form;obtain⟨p5,q5,rfl,_,_⟩:=tw4.s.a.form;have x4:=x2.trans y4))
 have cS:∀(va vb:Value) (xs:List ByteArray) (H':j5) (W:World),j4 H' W→Sl H' va xs→Sl H' vb xs→Calls Tryz.prog 25 #[va,vb] W (I1 W (.bool true)):=fun va vb xs H' W hW h1 h2=>by simpa using bK5 va vb xs xs H' W hW h1 h2
 replace cS:=fe6 cS
 have hn_:H4 (World.heap w4).size=none:=(x4).holds.D6 (fh0 _)
 have xz:=((x4).alloc (.cells #[.slice (some ⟨b0,o0,none⟩) 2 q0,.slice p1 T.h.bs.length q1,.slice p2 2 q2,.int .i64 T.h.ch,.slice (some ⟨b3,o3,none⟩) 4 q3,.slice p4 T.s.wo.length q4,.slice p5 T.s.wa.length q5,.int .i64 T.s.fr] 32)).freeze (x4).below.size (heap_alloc_new w4 _)
 have lz:=j5.L9 hn_ (.cells #[.slice (some ⟨b0,o0,none⟩) 2 q0,.slice p1 T.h.bs.length q1,.slice p2 2 q2,.int .i64 T.h.ch,.slice (some ⟨b3,o3,none⟩) 4 q3,.slice p4 T.s.wo.length q4,.slice p5 T.s.wa.length q5,.int .i64 T.s.fr] 32 (0,0))
 have hput:=j5.G7 H4 (World.heap w4).size (.cells #[.slice (some ⟨b0,o0,none⟩) 2 q0,.slice p1 T.h.bs.length q1,.slice p2 2 q2,.int .i64 T.h.ch,.slice (some ⟨b3,o3,none⟩) 4 q3,.slice p4 T.s.wo.length q4,.slice p5 T.s.wa.length q5,.int .i64 T.s.fr] 32 (0,0))
 clear hn_
 generalize j5.put H4 (World.heap w4).size (.cells #[.slice (some ⟨b0,o0,none⟩) 2 q0,.slice p1 T.h.bs.length q1,.slice p2 2 q2,.int .i64 T.h.ch,.slice (some ⟨b3,o3,none⟩) 4 q3,.slice p4 T.s.wo.length q4,.slice p5 T.s.wa.length q5,.int .i64 T.s.fr] 32 (0,0))=H5 at*
 generalize World.alloc w4 (.cells #[.slice (some ⟨b0,o0,none⟩) 2 q0,.slice p1 T.h.bs.length q1,.slice p2 2 q2,.int .i64 T.h.ch,.slice (some ⟨b3,o3,none⟩) 4 q3,.slice p4 T.s.wo.length q4,.slice p5 T.s.wa.length q5,.int .i64 T.s.fr] 32)=wz at*
 generalize(World.heap w4).size=C at*
 obtain⟨d0,d1,d2,d3,d4,d5,d6,d7⟩:=I5 (t:=T) hput
 have hwz:=xz.holds
 replace sA:=sA.mono lz
 replace sB:=sB.mono lz
 replace i2:=lift lz i2
 replace i3:=lift lz i3
 rw[g3]at i2
 rw[g5]at i3
 clear tw4 x4 y4 s2 x2 x1 tw l2 hput hm0 hp3 f1 f2 f4
 go_wp2_with(first
  |(have hgd:=x6;clear hgd;go_at_call 25;obtain⟨H7,l7,x7,s7⟩:=dL8 x6;go_must (refine(cS.out _ _ exA _ _ x7.holds ((sA.mono l6).mono l7) s7).mono ?_);rintro e w8 ⟨rfl,hb8⟩;have x8:=x7.step (hb8.mono x7.below.size) (x7.holds.below hb8))
  |(go_at_call 25;obtain⟨H6,l6,x6',s6⟩:=dL9 xz;go_must (refine(cS.out _ _ exK _ _ x6'.holds (sB.mono l6) s6).mono ?_);rintro e w6 ⟨rfl,hb6⟩;have x6:=x6'.step (hb6.mono x6'.below.size) (x6'.holds.below hb6)))
 go_ret
 exact⟨rfl,x8.below⟩
end
section
open Go.RowKit
attribute [local go_sem] j4.drew j4.alloc j4.drewN WB.holds Oper.semAt_some Q9 O1 J7
structure eb5 (t:D5) (l:List ByteArray):Prop where
 g:aL1 t=false
 n:l.length≤24
 z:∀s∈l,s.size≤60
 b:t.h.bs.length+aK1 l≤4
 v:F6 t=true
theorem aL3 {t:D5} {l:List ByteArray}:aF8 t l=true↔eb5 t l:=by
 unfold aF8 bY3
 constructor
 ·intro h
  rw[fh9,fh9]at h
  obtain⟨h1,h2,h3⟩:=h
  have h3':l.length≤24:=of_decide_eq_true h3
  rw[h2]at h1
  rw[Bool.not_eq_true']at h1
  rw[Bool.or_eq_false_iff,Bool.or_eq_false_iff,Bool.or_eq_false_iff]at h1
  obtain⟨a,_,c,d⟩:=h1
  refine⟨a,h3',fun s hs=> ?_, ?_,h2⟩
  ·have:=List.any_eq_false.1 c s hs
   simp at this
   omega
  ·rw[Bool.and_true]at d
   have:=of_decide_eq_false d
   omega
 ·rintro⟨a,b,c,d,e⟩
  have c':(l.any fun s=>decide (60<s.size))=false:=List.any_eq_false.2 fun s hs=>by have:=c s hs;simp;omega
  rw[a,c',e,decide_eq_false (show ¬60<l.length by omega),decide_eq_false (show ¬4<t.h.bs.length+aK1 l by omega),decide_eq_true (show l.length≤24 from b)]
  rfl
end
end Go.Proofs.YtbliehinagkldaaGreatDoor
