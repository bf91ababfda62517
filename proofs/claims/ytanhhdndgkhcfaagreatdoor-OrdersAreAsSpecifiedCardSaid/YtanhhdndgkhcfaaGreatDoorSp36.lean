/- Part 36 of the proof of lawSpec.card: OrdRefG. Conditions: those of each theorem. -/
import Derived.Deep.CutBlock
import Derived.Deep.DeepCutAuto
import Derived.Test.YtanhhdndgkhcfaaGreatDoorSp01
import Derived.Test.YtanhhdndgkhcfaaGreatDoorSp35
set_option maxRecDepth 20000
set_option maxHeartbeats 16000000
namespace Go.Proofs.YtanhhdndgkhcfaaGreatDoor
open Go Go.Proofs Go.RowKit
attribute [local go_sem] Oper.semAt_some
attribute [local go_sem ↓] run_eql_rat' run_neq_rat' run_field_rats
section
variable {rs:List Rc} {lo hi:List Rv} {cs:List Cl} {rp lp hp cp:Option Addr} {rc lc hc cc:Nat} {W:World}
theorem set_allot{us vs:List Rv} {up:Option Addr} {uc g:Nat} {v:Rv} (hr:RivAt W.heap.size W rs rp rc) (hcl:At W.heap.size W 5 claimCells cs cp cc) (h1:supE rs us cs=0) (h2:supE rs vs cs=0) (hv:v∈vs) (su:∀u∈us,SzR u 20) (sv:∀u∈vs,SzR u 20) (sc:∀c∈cs,SzR c.amt 20) (hn8:rs.length<=8) (hm12:cs.length<=12) (hu:At W.heap.size W 3 ratCells (us.set g v) up uc) :
  Calls Tryz.prog 42 #[.agg #[.slice rp rs.length rc,.slice up us.length uc],.slice cp cs.length cc] W fun e w'=>∃q c,e=.returned (.agg #[.slice q cs.length c,.int .i64 0])/\(∀b a s,q=some ⟨b,a,s⟩->W.heap.size<=b)/\At w'.heap.size w' 3 ratCells (takesR rs cs (us.set g v)) q c/\(∀u∈takesR rs cs (us.set g v),SzR u 2920300)/\Turned (fun _=>False) W w':=by
 have h:=yAllot_ok hr hu hcl (fun u hu=>by
  rcases List.mem_or_eq_of_mem_set hu with h | h
  ·exact su u h
  ·rw[h];exact sv v hv) sc (supE_set h1 h2 (g:=g) hv) hn8 hm12
 rw[List.length_set] at h;exact h
set_option linter.unusedSimpArgs false in
theorem lMatters_ok(h:OIn W rs lo hi cs rp lp hp cp rc lc hc cc) (he:ordE rs lo hi cs=0) (hn8:rs.length<=8) (hm12:cs.length<=12) (k:Nat) (hk:k < cs.length) :
  Calls Tryz.prog 18 #[.agg #[.slice rp rs.length rc,.slice lp lo.length lc,.slice hp hi.length hc],.slice cp cs.length cc,.int .i64 k] W fun e w'=>∃p c,e=.returned (.agg #[.slice p (matTo rs cs lo hi k rs.length).length c,.int .i64 0])/\At w'.heap.size w' 1 intCells (matTo rs cs lo hi k rs.length) p c/\Turned (fun _=>False) W w':=by
 have hok:=ordE_zero he;have hl1:=hok.low.len;have hl2:=hok.high.len;have HC:=zh (fun A (hA:Turned (fun _=>False) W A)=>lLimits_ok (h.on hA) he hn8 hm12)
 have HWITa:=zh (fun A (hA:Turned (fun _=>False) W A) (g:Nat) (v:Rv) (hg:g < hi.length)=>lWith_any hi hp hc g v A (h.on hA).fc.hi hg (by omega))
 have HWITb:=zh (fun A (hA:Turned (fun _=>False) W A) (g:Nat) (v:Rv) (hg:g < lo.length)=>lWith_any lo lp lc g v A (h.on hA).fc.lo hg (by omega))
 have HALTa:=zh (fun A (hA:Turned (fun _=>False) W A) (g:Nat) (v:Rv) (hv:v∈lo) (q:Option Addr) (d:Nat) (hq:At A.heap.size A 3 ratCells (hi.set g v) q d)=>set_allot (h.on hA).fc.riv (h.on hA).cl hok.e2 hok.e1 hv h.sh h.sl h.sc hn8 hm12 hq)
 have HALTb:=zh (fun A (hA:Turned (fun _=>False) W A) (g:Nat) (v:Rv) (hv:v∈hi) (q:Option Addr) (d:Nat) (hq:At A.heap.size A 3 ratCells (lo.set g v) q d)=>set_allot (h.on hA).fc.riv (h.on hA).cl hok.e1 hok.e2 hv h.sl h.sh h.sc hn8 hm12 hq)
 have HLO:=zh h.fc.lo;have HHI:=zh h.fc.hi;have htl:∀us,(takesR rs cs us).length=cs.length:=fun us=>repL_len _ _
 have HTL:=zh htl;have HMS:=zh (fun g=>matTo_succ rs cs lo hi k g)
 have HML:=zh (fun g=>matTo_len rs cs lo hi k g)
 have HMB:Hid (∀g,matB rs cs lo hi k g=(!sameR ((takesR rs cs (hi.set g (lo.getD g zeroR))).getD k zeroR) ((takesR rs cs hi).getD k zeroR) || !sameR ((takesR rs cs (lo.set g (hi.getD g zeroR))).getD k zeroR) ((takesR rs cs lo).getD k zeroR))):=zh fun g=>rfl
 obtain⟨mt,hmt⟩ : ∃f:Nat->List Int,(fun g=>matTo rs cs lo hi k g)=f:=⟨_,rfl⟩
 have HMT:Hid (∀g,matTo rs cs lo hi k g=mt g):=zh fun g=>by rw[<- hmt]
 have HMT0:Hid (mt 0=[]):=zh (by rw[<- hmt];rfl)
 obtain⟨tk,htk⟩ : ∃f:List Rv->List Rv,takesR rs cs=f:=⟨_,rfl⟩;rw[htk] at HC HALTa HALTb HTL HMB;obtain⟨nr,hnr⟩ : ∃n,rs.length=n:=⟨_,rfl⟩;obtain⟨nc,hnc⟩ : ∃n,cs.length=n:=⟨_,rfl⟩;rw[hnr] at hl1 hl2;rw[hnr,hl1,hl2,hnc] at HC;rw[hl2] at HWITa;rw[hl1] at HWITb;rw[hnr,hl2,hnc] at HALTa;rw[hnr,hl1,hnc] at HALTb;rw[hnc] at HTL hk;rw[hnr,hl1,hl2,hnc,HMT.out];have HL1:=zh hl1;have HL2:=zh hl2;have hk0:(0:Int)<=k:=by omega
 have hk1:(k:Int) < nc:=by omega
 have hk2:¬(k:Int) < 0:=by omega
 have hk3:¬(nc:Int)<=k:=by omega
 have hk4:decide (nc<=k)=false:=decide_eq_false (by omega)
 have hk5:decide ((k:Int) < 0)=false:=decide_eq_false (by omega)
 have hnr8:(nr:Int)<=8:=by omega
 have T0:=zh (((zr W).alloc (.cells #[.slice rp nr rc,.slice lp nr lc,.slice hp nr hc] 25 (0,0))).alloc (.cells #[.slice none 0 0,.int .i64 0] 48 (0,0)));have n0:=zh (new_first W (.cells #[.slice rp nr rc,.slice lp nr lc,.slice hp nr hc] 25 (0,0)) (.cells #[.slice none 0 0,.int .i64 0] 48 (0,0)));have n1:=zh (new_second W (.cells #[.slice rp nr rc,.slice lp nr lc,.slice hp nr hc] 25 (0,0)) (.cells #[.slice none 0 0,.int .i64 0] 48 (0,0)));clear h he hok hn8 hm12 hl1 hl2 htl hmt htk hnr hnc;go_enter Tryz.func18,Tryz.ntmps18;go_wp2_with fail;refine(HC.out _ T0.out).mono ?_;rintro e w0 ⟨p1,c1,p2,c2,rfl,-,ha,hb,-,t1⟩;have HT0:=zh (T0.out.trans t1);have HB0:=zh (keepB t1 n1.out);have HF0:=zh (keepB t1 n0.out);obtain⟨⟨mn,mx,md⟩,hm⟩ : ∃u,(tk hi)[k]? = some u:=⟨_,List.getElem?_eq_getElem (by rw[HTL.out];exact hk)⟩
 obtain⟨⟨ln,lx,ld⟩,hl⟩ : ∃u,(tk lo)[k]? = some u:=⟨_,List.getElem?_eq_getElem (by rw[HTL.out];exact hk)⟩
 have HM:=zh hm;have HLl:=zh hl;obtain⟨b1,a1,rfl,-,m0,m1,m2⟩:=ha.rats hl;obtain⟨b2,a2,rfl,-,m3,m4,m5⟩:=hb.rats hm;obtain⟨w1,hw1⟩ : ∃w,w=w0.alloc (.cells #[.slice (some ⟨b1,a1,none⟩) nc c1,.slice (some ⟨b2,a2,none⟩) nc c2,.int .i64 0] 37):=⟨_,rfl⟩;have hX:=(show w1.heap[w0.heap.size]? = some (.cells #[.slice (some ⟨b1,a1,none⟩) nc c1,.slice (some ⟨b2,a2,none⟩) nc c2,.int .i64 0] 37 (0,0)) from by rw[hw1];exact World.alloc_heap_new _ _)
 have T1:=(zr w0).alloc (.cells #[.slice (some ⟨b1,a1,none⟩) nc c1,.slice (some ⟨b2,a2,none⟩) nc c2,.int .i64 0] 37);rw[<- hw1] at T1;have HT1:=zh (HT0.out.trans T1);have HB1:=zh (keepB T1 HB0.out);have hF1:=keepB T1 HF0.out;have HCX:Hid (∀A,Turned (fun _=>False) w1 A->(A.cell? ⟨w0.heap.size,0,none⟩=some (.slice (some ⟨b1,a1,none⟩) nc c1)/\A.cell? ⟨w0.heap.size,1,none⟩=some (.slice (some ⟨b2,a2,none⟩) nc c2))/\(A.cell? ⟨b1,a1+k*3,none⟩=some (.bool ln)/\A.cell? ⟨b1,a1+k*3+1,none⟩=some (.string lx)/\A.cell? ⟨b1,a1+k*3+2,none⟩=some (.string ld))/\(A.cell? ⟨b2,a2+k*3,none⟩=some (.bool mn)/\A.cell? ⟨b2,a2+k*3+1,none⟩=some (.string mx)/\A.cell? ⟨b2,a2+k*3+2,none⟩=some (.string md))/\(A.cell? ⟨W.heap.size,0,none⟩=some (.slice rp nr rc)/\A.cell? ⟨W.heap.size,1,none⟩=some (.slice lp nr lc)/\A.cell? ⟨W.heap.size,2,none⟩=some (.slice hp nr hc))):=zh fun A hA =>
  ⟨⟨(box3 (keepB hA hX)).1,(box3 (keepB hA hX)).2.1⟩,⟨cellT (T1.trans hA) id m0,cellT (T1.trans hA) id m1,cellT (T1.trans hA) id m2⟩,⟨cellT (T1.trans hA) id m3,cellT (T1.trans hA) id m4,cellT (T1.trans hA) id m5⟩,(box3 (keepB hA hF1)).1,(box3 (keepB hA hF1)).2.1,(box3 (keepB hA hF1)).2.2.1⟩
 obtain⟨y0,y1,y2,y3,y4,y5⟩:=box3 hX;clear t1 ha hb hm hl m0 m1 m2 m3 m4 m5 HC T0 n0 n1 hX hF1 T1 HT0 HB0 HF0 hk;go_wp2_with fail;rw[<- hw1];clear hw1;obtain⟨X,hX⟩ : ∃X,w0.heap.size=X:=⟨_,rfl⟩;rw[hX] at HCX y0 y1 y2 y3 y4 y5 ⊢;clear hX;go_wp2_with fail;clear y0 y1 y2 y3 y4 y5
 go_loopw [8,9] (fun v i wr=>∃(g:Nat) (p:Option Addr) (c:Nat),g<=nr/\i=(.int .i64 g)/\v=.slice p (mt g).length c/\Hid (Grown wr w1.heap.size 3 1 intCells (.slice p (mt g).length c) (mt g)/\Turned (fun _=>False) w1 wr)) (fun _ i _=>nr-(intOf i).toNat)
 case atStart=>exact⟨0,none,0,Nat.zero_le _,rfl,by rw[HMT0.out];rfl,zh ⟨by rw[HMT0.out];exact Grown.nil _ _ _ _ _,Turned.refl _ _⟩⟩
 case round =>
  clear hk4 hk5;obtain⟨g,p,c,hg,rfl,rfl,HI⟩:=hrel;obtain⟨-,-,-,z0,z1,z2⟩:=HCX.out wr HI.out.2;by_cases hlt:g < nr
  ·obtain⟨⟨xn,xx,xd⟩,hx⟩ : ∃u,lo[g]? = some u:=⟨_,List.getElem?_eq_getElem (by rw[HL1.out];exact hlt)⟩
   obtain⟨⟨yn,yx,yd⟩,hy⟩ : ∃u,hi[g]? = some u:=⟨_,List.getElem?_eq_getElem (by rw[HL2.out];exact hlt)⟩
   have hms:=HMS.out g;have hmb:=HMB.out g;rw[HMT.out,HMT.out] at hms;obtain⟨⟨an,ax,ad⟩,hsa⟩ : ∃u,(tk (hi.set g ⟨xn,xx,xd⟩))[k]? = some u:=⟨_,List.getElem?_eq_getElem (by rw[HTL.out];omega)⟩
   obtain⟨⟨bn,bx,bd⟩,hsb⟩ : ∃u,(tk (lo.set g ⟨yn,yx,yd⟩))[k]? = some u:=⟨_,List.getElem?_eq_getElem (by rw[HTL.out];omega)⟩
   have HTKa:=zh hsa;have HTKb:=zh hsb;rw[getD_of hx,getD_of hy,getD_of hsa,getD_of hsb,getD_of HM.out,getD_of HLl.out] at hmb;obtain⟨sa,ha⟩ : ∃s,sameR ⟨an,ax,ad⟩ ⟨mn,mx,md⟩=s:=⟨_,rfl⟩;obtain⟨sb,hb⟩ : ∃s,sameR ⟨bn,bx,bd⟩ ⟨ln,lx,ld⟩=s:=⟨_,rfl⟩;rw[ha,hb] at hmb;rw[hmb] at hms;have HST:=zh hms;have HWIa:=zh (fun V hV=>HWITa.out V hV g ⟨xn,xx,xd⟩ hlt)
   have HWIb:=zh (fun V hV=>HWITb.out V hV g ⟨yn,yx,yd⟩ hlt)
   have HALa:=zh (fun V hV=>HALTa.out V hV g ⟨xn,xx,xd⟩ (List.mem_of_getElem? hx))
   have HALb:=zh (fun V hV=>HALTb.out V hV g ⟨yn,yx,yd⟩ (List.mem_of_getElem? hy))
   obtain⟨lb,la,rfl,-,l0,l1,l2⟩:=(HLO.out.turned (HT1.out.trans HI.out.2)).rats hx;obtain⟨hb',ha',rfl,-,h0,h1,h2⟩:=(HHI.out.turned (HT1.out.trans HI.out.2)).rats hy;have HCBa:Hid (∀A,Turned (fun _=>False) wr A->(A.cell? ⟨W.heap.size,0,none⟩=some (.slice rp nr rc)/\A.cell? ⟨W.heap.size,1,none⟩=some (.slice (some ⟨lb,la,none⟩) nr lc)/\A.cell? ⟨W.heap.size,2,none⟩=some (.slice (some ⟨hb',ha',none⟩) nr hc))/\A.cell? ⟨lb,la+g*3,none⟩=some (.bool xn)/\A.cell? ⟨lb,la+g*3+1,none⟩=some (.string xx)/\A.cell? ⟨lb,la+g*3+2,none⟩=some (.string xd)):=zh fun A hA =>
    ⟨(HCX.out A (HI.out.2.trans hA)).2.2.2,cellT hA id l0,cellT hA id l1,cellT hA id l2⟩
   have HCBb0:Hid (∀A,Turned (fun _=>False) wr A->(A.cell? ⟨W.heap.size,0,none⟩=some (.slice rp nr rc)/\A.cell? ⟨W.heap.size,1,none⟩=some (.slice (some ⟨lb,la,none⟩) nr lc)/\A.cell? ⟨W.heap.size,2,none⟩=some (.slice (some ⟨hb',ha',none⟩) nr hc))/\A.cell? ⟨hb',ha'+g*3,none⟩=some (.bool yn)/\A.cell? ⟨hb',ha'+g*3+1,none⟩=some (.string yx)/\A.cell? ⟨hb',ha'+g*3+2,none⟩=some (.string yd)):=zh fun A hA =>
    ⟨(HCX.out A (HI.out.2.trans hA)).2.2.2,cellT hA id h0,cellT hA id h1,cellT hA id h2⟩
   have hg0:(0:Int)<=g:=by omega
   have hg1:(g:Int) < nr:=by omega
   have hml:=HML.out g;rw[HMT.out] at hml;have HSA:=zh (And.intro ha hb);have HWW:=zh (HT1.out.trans HI.out.2);clear hx hy hms hmb hsa hsb l0 l1 l2 h0 h1 h2 ha hb HMS HMB HWITa HWITb HALTa HALTb HML
   go_upto_region 10 with fail
   clear z0 z1 z2
   go_cut [10] from 30 to 90 (fun v wy=>∃h:Nat,v=.pointer (some ⟨h,0,none⟩)/\Hid (Turned (fun _=>False) wr wy/\wy.heap[h]? = some (.cells #[.bool an,.string ax,.string ad] 68 (0,0))))
   case first =>
    have HCA:Hid (∀A,Turned (fun _=>False) wr A->(A.cell? ⟨W.heap.size,0,none⟩=some (.slice rp nr rc)/\A.cell? ⟨W.heap.size,1,none⟩=some (.slice (some ⟨lb,la,none⟩) nr lc)/\A.cell? ⟨W.heap.size,2,none⟩=some (.slice (some ⟨hb',ha',none⟩) nr hc))/\A.cell? ⟨lb,la+g*3,none⟩=some (.bool xn)/\A.cell? ⟨lb,la+g*3+1,none⟩=some (.string xx)/\A.cell? ⟨lb,la+g*3+2,none⟩=some (.string xd)):=zh fun A hA=>HCBa.out A hA
    have HD0:=zh (zr wr).drew;refine wp_region_plain (S:=fun A=>(A.cell? ⟨W.heap.size,0,none⟩=some (.slice rp nr rc)/\A.cell? ⟨W.heap.size,1,none⟩=some (.slice (some ⟨lb,la,none⟩) nr lc)/\A.cell? ⟨W.heap.size,2,none⟩=some (.slice (some ⟨hb',ha',none⟩) nr hc))/\A.cell? ⟨lb,la+g*3,none⟩=some (.bool xn)/\A.cell? ⟨lb,la+g*3+1,none⟩=some (.string xx)/\A.cell? ⟨lb,la+g*3+2,none⟩=some (.string xd)) (by kernel_rfl) ?_
    obtain⟨v0,hv0⟩ : ∃v,v=wr.drew:=⟨_,rfl⟩;rw[<- hv0] at HD0 ⊢;clear hv0;refine zt 0 (.agg #[.slice rp nr rc,.slice (some ⟨lb,la,none⟩) nr lc,.slice (some ⟨hb',ha',none⟩) nr hc]) rfl (Or.inl ⟨by kernel_rfl,fun V hV=>?_⟩) (HCA.out _ HD0.out) ?_
    ·obtain⟨⟨f0,f1,f2⟩,f3,f4,f5⟩:=hV;go_simp
    try simp only[zz0,zz1,zz2,Act.put,zz3,zz4,zz5]
    refine zt 1 (.pointer (some ⟨W.heap.size,2,none⟩)) rfl (Or.inl ⟨by kernel_rfl,fun V hV=>?_⟩) (HCA.out _ HD0.out) ?_
    ·obtain⟨⟨f0,f1,f2⟩,f3,f4,f5⟩:=hV;go_simp
    try simp only[zz0,zz1,zz2,Act.put,zz3,zz4,zz5]
    refine zt 2 (.slice (some ⟨hb',ha',none⟩) nr hc) rfl (Or.inl ⟨by kernel_rfl,fun V hV=>?_⟩) (HCA.out _ HD0.out) ?_
    ·obtain⟨⟨f0,f1,f2⟩,f3,f4,f5⟩:=hV;go_simp
    try simp only[zz0,zz1,zz2,Act.put,zz3,zz4,zz5]
    refine zt 3 (.int .i64 g) rfl (Or.inl ⟨by kernel_rfl,fun V hV=>?_⟩) (HCA.out _ HD0.out) ?_
    ·obtain⟨⟨f0,f1,f2⟩,f3,f4,f5⟩:=hV;go_simp
    try simp only[zz0,zz1,zz2,Act.put,zz3,zz4,zz5]
    refine zt 4 (.pointer (some ⟨W.heap.size,1,none⟩)) rfl (Or.inl ⟨by kernel_rfl,fun V hV=>?_⟩) (HCA.out _ HD0.out) ?_
    ·obtain⟨⟨f0,f1,f2⟩,f3,f4,f5⟩:=hV;go_simp
    try simp only[zz0,zz1,zz2,Act.put,zz3,zz4,zz5]
    refine zt 5 (.slice (some ⟨lb,la,none⟩) nr lc) rfl (Or.inl ⟨by kernel_rfl,fun V hV=>?_⟩) (HCA.out _ HD0.out) ?_
    ·obtain⟨⟨f0,f1,f2⟩,f3,f4,f5⟩:=hV;go_simp
    try simp only[zz0,zz1,zz2,Act.put,zz3,zz4,zz5]
    refine zt 6 (.int .i64 g) rfl (Or.inl ⟨by kernel_rfl,fun V hV=>?_⟩) (HCA.out _ HD0.out) ?_
    ·obtain⟨⟨f0,f1,f2⟩,f3,f4,f5⟩:=hV;go_simp
    try simp only[zz0,zz1,zz2,Act.put,zz3,zz4,zz5]
    refine zt 7 (.pointer (some ⟨lb,la+g*3,none⟩)) rfl (Or.inl ⟨by kernel_rfl,fun V hV=>?_⟩) (HCA.out _ HD0.out) ?_
    ·obtain⟨⟨f0,f1,f2⟩,f3,f4,f5⟩:=hV;go_simp
    try simp only[zz0,zz1,zz2,Act.put,zz3,zz4,zz5]
    refine zt 8 (.agg #[.bool xn,.string xx,.string xd]) rfl (Or.inl ⟨by kernel_rfl,fun V hV=>?_⟩) (HCA.out _ HD0.out) ?_
    ·obtain⟨⟨f0,f1,f2⟩,f3,f4,f5⟩:=hV;go_simp
    try simp only[zz0,zz1,zz2,Act.put,zz3,zz4,zz5]
    refine zt 11 (.slice cp nc cc) rfl (Or.inl ⟨by kernel_rfl,fun V hV=>?_⟩) (HCA.out _ HD0.out) ?_
    ·obtain⟨⟨f0,f1,f2⟩,f3,f4,f5⟩:=hV;go_simp
    try simp only[zz0,zz1,zz2,Act.put,zz3,zz4,zz5]
    refine zt 14 (.int .i64 k) rfl (Or.inl ⟨by kernel_rfl,fun V hV=>?_⟩) (HCA.out _ HD0.out) ?_
    ·obtain⟨⟨f0,f1,f2⟩,f3,f4,f5⟩:=hV;go_simp
    try simp only[zz0,zz1,zz2,Act.put,zz3,zz4,zz5]
    refine wpAnyH_ready (rs:=[9,17]) (by kernel_rfl) (by simp) ?_
    refine .cons (o:=_) rfl (fun K hK=>?_) ?_
    ·go_simp;refine(HWIa.out _ (HWW.out.trans HD0.out)).mono ?_;rintro e v1 ⟨q1,d1,rfl,ha1,tv1⟩;have HAT:=zh ha1;clear ha1;have Tv1:=zh (HD0.out.trans tv1);refine hK.out _ _ (HCA.out _ Tv1.out) (fun _=>?_)
     clear hK K tv1;try simp only[zz0,zz1,zz2,Act.put,zz3,zz4,zz5]
     refine wpAnyH_ready (rs:=[10,17]) (by kernel_rfl) (by simp) ?_
     refine .cons (o:=_) rfl (fun K hK=>?_) ?_
     ·go_simp;refine(lSupply_any _ _ _ _ _ _ _ _ _ _ _ _ _).mono ?_;rintro e v2 ⟨rfl,tv2⟩;replace HAT:=zh (HAT.out.on tv2);have Tv2:=zh (Tv1.out.trans tv2);refine hK.out _ _ (HCA.out _ Tv2.out) (fun _=>?_)
      clear hK K tv2;try simp only[zz0,zz1,zz2,Act.put,zz3,zz4,zz5]
      refine wpAnyH_ready (rs:=[12,17]) (by kernel_rfl) (by simp) ?_
      refine .cons (o:=_) rfl (fun K hK=>?_) ?_
      ·go_simp;refine(HALa.out _ (HWW.out.trans Tv2.out) q1 d1 HAT.out).mono ?_;rintro e v3 ⟨q2,d2,rfl,-,ha2,-,tv3⟩;obtain⟨qb,qa,rfl,-,m0,m1,m2⟩:=ha2.rats HTKa.out;have HMQ:=zh (And.intro m0 (And.intro m1 m2));clear ha2 m0 m1 m2 HAT;have Tv3:=zh (Tv2.out.trans tv3);refine hK.out _ _ (HCA.out _ Tv3.out) (fun _=>?_)
       clear hK K tv3;try simp only[zz0,zz1,zz2,Act.put,zz3,zz4,zz5]
       refine zt 13 (.slice (some ⟨qb,qa,none⟩) nc d2) rfl (Or.inl ⟨by kernel_rfl,fun V hV=>?_⟩) (HCA.out _ Tv3.out) ?_
       ·obtain⟨⟨f0,f1,f2⟩,f3,f4,f5⟩:=hV;go_simp
       try simp only[zz0,zz1,zz2,Act.put,zz3,zz4,zz5]
       refine zt 15 (.pointer (some ⟨qb,qa+k*3,none⟩)) rfl (Or.inl ⟨by kernel_rfl,fun V hV=>?_⟩) (HCA.out _ Tv3.out) ?_
       ·obtain⟨⟨f0,f1,f2⟩,f3,f4,f5⟩:=hV;go_simp
       try simp only[zz0,zz1,zz2,Act.put,zz3,zz4,zz5]
       refine wpAnyH_ready (rs:=[16,17]) (by kernel_rfl) (by simp) ?_
       refine .cons (o:=_) rfl (fun K hK=>?_) ?_
       ·obtain⟨m0,m1,m2⟩:=HMQ.out;go_simp;refine hK.out _ _ (HCA.out _ Tv3.out) (fun _=>?_)
        clear hK K;try simp only[zz0,zz1,zz2,Act.put,zz3,zz4,zz5]
        refine wpAnyH_ready (rs:=[17]) (by kernel_rfl) (by simp) ?_
        refine .cons (o:=_) rfl (fun K hK=>?_) ?_
        ·obtain⟨v5,hv5⟩ : ∃w,w=v3.alloc (.cells #[.bool false,.string ⟨#[]⟩,.string ⟨#[]⟩] 68):=⟨_,rfl⟩;obtain⟨M,hM⟩ : ∃M,v3.heap.size=M:=⟨_,rfl⟩;have tv5:=(zr v3).alloc (.cells #[.bool false,.string ⟨#[]⟩,.string ⟨#[]⟩] 68);have bv5:(v3.alloc (.cells #[.bool false,.string ⟨#[]⟩,.string ⟨#[]⟩] 68)).heap[v3.heap.size]? = some _:=World.alloc_heap_new _ _;rw[<- hv5] at tv5 bv5;rw[hM] at bv5;have HMM:Hid (wr.heap.size<=M):=zh (by rw[<- hM];exact Tv3.out.size)
         have HBX:=zh bv5
         (try replace HAT:=zh (HAT.out.on tv5))
         (try replace HMQ:=zh (And.intro (cellT tv5 id HMQ.out.1) (And.intro (cellT tv5 id HMQ.out.2.1) (cellT tv5 id HMQ.out.2.2))))
         have Tv5:=zh (Tv3.out.trans tv5);go_simp;try rw[hM]
         try rw[<- hv5]
         refine hK.out _ _ (HCA.out _ Tv5.out) (fun _=>?_)
         clear hK K hv5 hM bv5 tv5;try simp only[zz0,zz1,zz2,Act.put,zz3,zz4,zz5]
         refine wpAnyH_ready (rs:=[18]) (by kernel_rfl) (by simp) ?_
         refine .cons (o:=_) rfl (fun K hK=>?_) ?_
         ·obtain⟨o0,o1,o2,o3,o4,o5⟩:=box3 HBX.out;have hst:=set3 HBX.out (.bool an) (.string ax) (.string ad);have HST2:=zh (And.intro (Tv5.out.fresh hst.2 fun i hi=>(by rw[hi];exact HMM.out:wr.heap.size<=i)) hst.1)
          clear hst;go_simp;refine hK.out _ _ (HCA.out _ HST2.out.1) (fun _=>?_)
          clear hK K o0 o1 o2 o3 o4 o5;refine wpAnyH_done (by kernel_rfl) ?_ _
          unfold OnlyN;go_wp2_with fail
          go_meet
          case rel=>exact⟨M,rfl,HST2⟩
         exact .nil
        exact .nil
       refine .cons (o:=_) rfl (fun K hK=>?_) ?_
       ·obtain⟨v7,hv7⟩ : ∃w,w=v3.alloc (.cells #[.bool false,.string ⟨#[]⟩,.string ⟨#[]⟩] 68):=⟨_,rfl⟩;obtain⟨M,hM⟩ : ∃M,v3.heap.size=M:=⟨_,rfl⟩;have tv7:=(zr v3).alloc (.cells #[.bool false,.string ⟨#[]⟩,.string ⟨#[]⟩] 68);have bv7:(v3.alloc (.cells #[.bool false,.string ⟨#[]⟩,.string ⟨#[]⟩] 68)).heap[v3.heap.size]? = some _:=World.alloc_heap_new _ _;rw[<- hv7] at tv7 bv7;rw[hM] at bv7;have HMM:Hid (wr.heap.size<=M):=zh (by rw[<- hM];exact Tv3.out.size)
        have HBX:=zh bv7
        (try replace HAT:=zh (HAT.out.on tv7))
        (try replace HMQ:=zh (And.intro (cellT tv7 id HMQ.out.1) (And.intro (cellT tv7 id HMQ.out.2.1) (cellT tv7 id HMQ.out.2.2))))
        have Tv7:=zh (Tv3.out.trans tv7);go_simp;try rw[hM]
        try rw[<- hv7]
        refine hK.out _ _ (HCA.out _ Tv7.out) (fun _=>?_)
        clear hK K hv7 hM bv7 tv7;try simp only[zz0,zz1,zz2,Act.put,zz3,zz4,zz5]
        refine wpAnyH_ready (rs:=[16]) (by kernel_rfl) (by simp) ?_
        refine .cons (o:=_) rfl (fun K hK=>?_) ?_
        ·obtain⟨m0,m1,m2⟩:=HMQ.out;go_simp;refine hK.out _ _ (HCA.out _ Tv7.out) (fun _=>?_)
         clear hK K;try simp only[zz0,zz1,zz2,Act.put,zz3,zz4,zz5]
         refine wpAnyH_ready (rs:=[18]) (by kernel_rfl) (by simp) ?_
         refine .cons (o:=_) rfl (fun K hK=>?_) ?_
         ·obtain⟨o0,o1,o2,o3,o4,o5⟩:=box3 HBX.out;have hst:=set3 HBX.out (.bool an) (.string ax) (.string ad);have HST2:=zh (And.intro (Tv7.out.fresh hst.2 fun i hi=>(by rw[hi];exact HMM.out:wr.heap.size<=i)) hst.1)
          clear hst;go_simp;refine hK.out _ _ (HCA.out _ HST2.out.1) (fun _=>?_)
          clear hK K o0 o1 o2 o3 o4 o5;refine wpAnyH_done (by kernel_rfl) ?_ _
          unfold OnlyN;go_wp2_with fail
          go_meet
          case rel=>exact⟨M,rfl,HST2⟩
         exact .nil
        exact .nil
       exact .nil
      refine .cons (o:=_) rfl (fun K hK=>?_) ?_
      ·obtain⟨v10,hv10⟩ : ∃w,w=v2.alloc (.cells #[.bool false,.string ⟨#[]⟩,.string ⟨#[]⟩] 68):=⟨_,rfl⟩;obtain⟨M,hM⟩ : ∃M,v2.heap.size=M:=⟨_,rfl⟩;have tv10:=(zr v2).alloc (.cells #[.bool false,.string ⟨#[]⟩,.string ⟨#[]⟩] 68);have bv10:(v2.alloc (.cells #[.bool false,.string ⟨#[]⟩,.string ⟨#[]⟩] 68)).heap[v2.heap.size]? = some _:=World.alloc_heap_new _ _;rw[<- hv10] at tv10 bv10;rw[hM] at bv10;have HMM:Hid (wr.heap.size<=M):=zh (by rw[<- hM];exact Tv2.out.size)
       have HBX:=zh bv10
       (try replace HAT:=zh (HAT.out.on tv10))
       (try replace HMQ:=zh (And.intro (cellT tv10 id HMQ.out.1) (And.intro (cellT tv10 id HMQ.out.2.1) (cellT tv10 id HMQ.out.2.2))))
       have Tv10:=zh (Tv2.out.trans tv10);go_simp;try rw[hM]
       try rw[<- hv10]
       refine hK.out _ _ (HCA.out _ Tv10.out) (fun _=>?_)
       clear hK K hv10 hM bv10 tv10;try simp only[zz0,zz1,zz2,Act.put,zz3,zz4,zz5]
       refine wpAnyH_ready (rs:=[12]) (by kernel_rfl) (by simp) ?_
       refine .cons (o:=_) rfl (fun K hK=>?_) ?_
       ·go_simp;refine(HALa.out _ (HWW.out.trans Tv10.out) q1 d1 HAT.out).mono ?_;rintro e v11 ⟨q2,d2,rfl,-,ha2,-,tv11⟩;obtain⟨qb,qa,rfl,-,m0,m1,m2⟩:=ha2.rats HTKa.out;have HMQ:=zh (And.intro m0 (And.intro m1 m2));clear ha2 m0 m1 m2 HAT;have Tv11:=zh (Tv10.out.trans tv11);replace HBX:=zh (keepB tv11 HBX.out);refine hK.out _ _ (HCA.out _ Tv11.out) (fun _=>?_)
        clear hK K tv11;try simp only[zz0,zz1,zz2,Act.put,zz3,zz4,zz5]
        refine zt 13 (.slice (some ⟨qb,qa,none⟩) nc d2) rfl (Or.inl ⟨by kernel_rfl,fun V hV=>?_⟩) (HCA.out _ Tv11.out) ?_
        ·obtain⟨⟨f0,f1,f2⟩,f3,f4,f5⟩:=hV;go_simp
        try simp only[zz0,zz1,zz2,Act.put,zz3,zz4,zz5]
        refine zt 15 (.pointer (some ⟨qb,qa+k*3,none⟩)) rfl (Or.inl ⟨by kernel_rfl,fun V hV=>?_⟩) (HCA.out _ Tv11.out) ?_
        ·obtain⟨⟨f0,f1,f2⟩,f3,f4,f5⟩:=hV;go_simp
        try simp only[zz0,zz1,zz2,Act.put,zz3,zz4,zz5]
        refine wpAnyH_ready (rs:=[16]) (by kernel_rfl) (by simp) ?_
        refine .cons (o:=_) rfl (fun K hK=>?_) ?_
        ·obtain⟨m0,m1,m2⟩:=HMQ.out;go_simp;refine hK.out _ _ (HCA.out _ Tv11.out) (fun _=>?_)
         clear hK K;try simp only[zz0,zz1,zz2,Act.put,zz3,zz4,zz5]
         refine wpAnyH_ready (rs:=[18]) (by kernel_rfl) (by simp) ?_
         refine .cons (o:=_) rfl (fun K hK=>?_) ?_
         ·obtain⟨o0,o1,o2,o3,o4,o5⟩:=box3 HBX.out;have hst:=set3 HBX.out (.bool an) (.string ax) (.string ad);have HST2:=zh (And.intro (Tv11.out.fresh hst.2 fun i hi=>(by rw[hi];exact HMM.out:wr.heap.size<=i)) hst.1)
          clear hst;go_simp;refine hK.out _ _ (HCA.out _ HST2.out.1) (fun _=>?_)
          clear hK K o0 o1 o2 o3 o4 o5;refine wpAnyH_done (by kernel_rfl) ?_ _
          unfold OnlyN;go_wp2_with fail
          go_meet
          case rel=>exact⟨M,rfl,HST2⟩
         exact .nil
        exact .nil
       exact .nil
      exact .nil
     refine .cons (o:=_) rfl (fun K hK=>?_) ?_
     ·obtain⟨v14,hv14⟩ : ∃w,w=v1.alloc (.cells #[.bool false,.string ⟨#[]⟩,.string ⟨#[]⟩] 68):=⟨_,rfl⟩;obtain⟨M,hM⟩ : ∃M,v1.heap.size=M:=⟨_,rfl⟩;have tv14:=(zr v1).alloc (.cells #[.bool false,.string ⟨#[]⟩,.string ⟨#[]⟩] 68);have bv14:(v1.alloc (.cells #[.bool false,.string ⟨#[]⟩,.string ⟨#[]⟩] 68)).heap[v1.heap.size]? = some _:=World.alloc_heap_new _ _;rw[<- hv14] at tv14 bv14;rw[hM] at bv14;have HMM:Hid (wr.heap.size<=M):=zh (by rw[<- hM];exact Tv1.out.size)
      have HBX:=zh bv14
      (try replace HAT:=zh (HAT.out.on tv14))
      (try replace HMQ:=zh (And.intro (cellT tv14 id HMQ.out.1) (And.intro (cellT tv14 id HMQ.out.2.1) (cellT tv14 id HMQ.out.2.2))))
      have Tv14:=zh (Tv1.out.trans tv14);go_simp;try rw[hM]
      try rw[<- hv14]
      refine hK.out _ _ (HCA.out _ Tv14.out) (fun _=>?_)
      clear hK K hv14 hM bv14 tv14;try simp only[zz0,zz1,zz2,Act.put,zz3,zz4,zz5]
      refine wpAnyH_ready (rs:=[10]) (by kernel_rfl) (by simp) ?_
      refine .cons (o:=_) rfl (fun K hK=>?_) ?_
      ·go_simp;refine(lSupply_any _ _ _ _ _ _ _ _ _ _ _ _ _).mono ?_;rintro e v15 ⟨rfl,tv15⟩;replace HAT:=zh (HAT.out.on tv15);have Tv15:=zh (Tv14.out.trans tv15);replace HBX:=zh (keepB tv15 HBX.out);refine hK.out _ _ (HCA.out _ Tv15.out) (fun _=>?_)
       clear hK K tv15;try simp only[zz0,zz1,zz2,Act.put,zz3,zz4,zz5]
       refine wpAnyH_ready (rs:=[12]) (by kernel_rfl) (by simp) ?_
       refine .cons (o:=_) rfl (fun K hK=>?_) ?_
       ·go_simp;refine(HALa.out _ (HWW.out.trans Tv15.out) q1 d1 HAT.out).mono ?_;rintro e v16 ⟨q2,d2,rfl,-,ha2,-,tv16⟩;obtain⟨qb,qa,rfl,-,m0,m1,m2⟩:=ha2.rats HTKa.out;have HMQ:=zh (And.intro m0 (And.intro m1 m2));clear ha2 m0 m1 m2 HAT;have Tv16:=zh (Tv15.out.trans tv16);replace HBX:=zh (keepB tv16 HBX.out);refine hK.out _ _ (HCA.out _ Tv16.out) (fun _=>?_)
        clear hK K tv16;try simp only[zz0,zz1,zz2,Act.put,zz3,zz4,zz5]
        refine zt 13 (.slice (some ⟨qb,qa,none⟩) nc d2) rfl (Or.inl ⟨by kernel_rfl,fun V hV=>?_⟩) (HCA.out _ Tv16.out) ?_
        ·obtain⟨⟨f0,f1,f2⟩,f3,f4,f5⟩:=hV;go_simp
        try simp only[zz0,zz1,zz2,Act.put,zz3,zz4,zz5]
        refine zt 15 (.pointer (some ⟨qb,qa+k*3,none⟩)) rfl (Or.inl ⟨by kernel_rfl,fun V hV=>?_⟩) (HCA.out _ Tv16.out) ?_
        ·obtain⟨⟨f0,f1,f2⟩,f3,f4,f5⟩:=hV;go_simp
        try simp only[zz0,zz1,zz2,Act.put,zz3,zz4,zz5]
        refine wpAnyH_ready (rs:=[16]) (by kernel_rfl) (by simp) ?_
        refine .cons (o:=_) rfl (fun K hK=>?_) ?_
        ·obtain⟨m0,m1,m2⟩:=HMQ.out;go_simp;refine hK.out _ _ (HCA.out _ Tv16.out) (fun _=>?_)
         clear hK K;try simp only[zz0,zz1,zz2,Act.put,zz3,zz4,zz5]
         refine wpAnyH_ready (rs:=[18]) (by kernel_rfl) (by simp) ?_
         refine .cons (o:=_) rfl (fun K hK=>?_) ?_
         ·obtain⟨o0,o1,o2,o3,o4,o5⟩:=box3 HBX.out;have hst:=set3 HBX.out (.bool an) (.string ax) (.string ad);have HST2:=zh (And.intro (Tv16.out.fresh hst.2 fun i hi=>(by rw[hi];exact HMM.out:wr.heap.size<=i)) hst.1)
          clear hst;go_simp;refine hK.out _ _ (HCA.out _ HST2.out.1) (fun _=>?_)
          clear hK K o0 o1 o2 o3 o4 o5;refine wpAnyH_done (by kernel_rfl) ?_ _
          unfold OnlyN;go_wp2_with fail
          go_meet
          case rel=>exact⟨M,rfl,HST2⟩
         exact .nil
        exact .nil
       exact .nil
      exact .nil
     exact .nil
    refine .cons (o:=_) rfl (fun K hK=>?_) ?_
    ·obtain⟨v19,hv19⟩ : ∃w,w=v0.alloc (.cells #[.bool false,.string ⟨#[]⟩,.string ⟨#[]⟩] 68):=⟨_,rfl⟩;obtain⟨M,hM⟩ : ∃M,v0.heap.size=M:=⟨_,rfl⟩;have tv19:=(zr v0).alloc (.cells #[.bool false,.string ⟨#[]⟩,.string ⟨#[]⟩] 68);have bv19:(v0.alloc (.cells #[.bool false,.string ⟨#[]⟩,.string ⟨#[]⟩] 68)).heap[v0.heap.size]? = some _:=World.alloc_heap_new _ _;rw[<- hv19] at tv19 bv19;rw[hM] at bv19;have HMM:Hid (wr.heap.size<=M):=zh (by rw[<- hM];exact HD0.out.size)
     have HBX:=zh bv19
     (try replace HAT:=zh (HAT.out.on tv19))
     (try replace HMQ:=zh (And.intro (cellT tv19 id HMQ.out.1) (And.intro (cellT tv19 id HMQ.out.2.1) (cellT tv19 id HMQ.out.2.2))))
     have Tv19:=zh (HD0.out.trans tv19);go_simp;try rw[hM]
     try rw[<- hv19]
     refine hK.out _ _ (HCA.out _ Tv19.out) (fun _=>?_)
     clear hK K hv19 hM bv19 tv19;try simp only[zz0,zz1,zz2,Act.put,zz3,zz4,zz5]
     refine wpAnyH_ready (rs:=[9]) (by kernel_rfl) (by simp) ?_
     refine .cons (o:=_) rfl (fun K hK=>?_) ?_
     ·go_simp;refine(HWIa.out _ (HWW.out.trans Tv19.out)).mono ?_;rintro e v20 ⟨q1,d1,rfl,ha1,tv20⟩;have HAT:=zh ha1;clear ha1;have Tv20:=zh (Tv19.out.trans tv20);replace HBX:=zh (keepB tv20 HBX.out);refine hK.out _ _ (HCA.out _ Tv20.out) (fun _=>?_)
      clear hK K tv20;try simp only[zz0,zz1,zz2,Act.put,zz3,zz4,zz5]
      refine wpAnyH_ready (rs:=[10]) (by kernel_rfl) (by simp) ?_
      refine .cons (o:=_) rfl (fun K hK=>?_) ?_
      ·go_simp;refine(lSupply_any _ _ _ _ _ _ _ _ _ _ _ _ _).mono ?_;rintro e v21 ⟨rfl,tv21⟩;replace HAT:=zh (HAT.out.on tv21);have Tv21:=zh (Tv20.out.trans tv21);replace HBX:=zh (keepB tv21 HBX.out);refine hK.out _ _ (HCA.out _ Tv21.out) (fun _=>?_)
       clear hK K tv21;try simp only[zz0,zz1,zz2,Act.put,zz3,zz4,zz5]
       refine wpAnyH_ready (rs:=[12]) (by kernel_rfl) (by simp) ?_
       refine .cons (o:=_) rfl (fun K hK=>?_) ?_
       ·go_simp;refine(HALa.out _ (HWW.out.trans Tv21.out) q1 d1 HAT.out).mono ?_;rintro e v22 ⟨q2,d2,rfl,-,ha2,-,tv22⟩;obtain⟨qb,qa,rfl,-,m0,m1,m2⟩:=ha2.rats HTKa.out;have HMQ:=zh (And.intro m0 (And.intro m1 m2));clear ha2 m0 m1 m2 HAT;have Tv22:=zh (Tv21.out.trans tv22);replace HBX:=zh (keepB tv22 HBX.out);refine hK.out _ _ (HCA.out _ Tv22.out) (fun _=>?_)
        clear hK K tv22;try simp only[zz0,zz1,zz2,Act.put,zz3,zz4,zz5]
        refine zt 13 (.slice (some ⟨qb,qa,none⟩) nc d2) rfl (Or.inl ⟨by kernel_rfl,fun V hV=>?_⟩) (HCA.out _ Tv22.out) ?_
        ·obtain⟨⟨f0,f1,f2⟩,f3,f4,f5⟩:=hV;go_simp
        try simp only[zz0,zz1,zz2,Act.put,zz3,zz4,zz5]
        refine zt 15 (.pointer (some ⟨qb,qa+k*3,none⟩)) rfl (Or.inl ⟨by kernel_rfl,fun V hV=>?_⟩) (HCA.out _ Tv22.out) ?_
        ·obtain⟨⟨f0,f1,f2⟩,f3,f4,f5⟩:=hV;go_simp
        try simp only[zz0,zz1,zz2,Act.put,zz3,zz4,zz5]
        refine wpAnyH_ready (rs:=[16]) (by kernel_rfl) (by simp) ?_
        refine .cons (o:=_) rfl (fun K hK=>?_) ?_
        ·obtain⟨m0,m1,m2⟩:=HMQ.out;go_simp;refine hK.out _ _ (HCA.out _ Tv22.out) (fun _=>?_)
         clear hK K;try simp only[zz0,zz1,zz2,Act.put,zz3,zz4,zz5]
         refine wpAnyH_ready (rs:=[18]) (by kernel_rfl) (by simp) ?_
         refine .cons (o:=_) rfl (fun K hK=>?_) ?_
         ·obtain⟨o0,o1,o2,o3,o4,o5⟩:=box3 HBX.out;have hst:=set3 HBX.out (.bool an) (.string ax) (.string ad);have HST2:=zh (And.intro (Tv22.out.fresh hst.2 fun i hi=>(by rw[hi];exact HMM.out:wr.heap.size<=i)) hst.1)
          clear hst;go_simp;refine hK.out _ _ (HCA.out _ HST2.out.1) (fun _=>?_)
          clear hK K o0 o1 o2 o3 o4 o5;refine wpAnyH_done (by kernel_rfl) ?_ _
          unfold OnlyN;go_wp2_with fail
          go_meet
          case rel=>exact⟨M,rfl,HST2⟩
         exact .nil
        exact .nil
       exact .nil
      exact .nil
     exact .nil
    exact .nil
   case rest =>
    obtain⟨pa,rfl,HPA⟩:=hcut;have HWW:=zh (HWW.out.trans HPA.out.1);have HCBb:=zh (fun A (hA:Turned (fun _=>False) wc A)=>HCBb0.out A (HPA.out.1.trans hA))
    have HWC:Hid (Turned (fun _=>False) wr wc):=zh HPA.out.1
    have HPB:Hid (wc.heap[pa]? = some (.cells #[.bool an,.string ax,.string ad] 68 (0,0))):=zh HPA.out.2;clear HPA HCBa HCBb0 HWIa HALa HTKa;obtain⟨wa,hwa⟩ : ∃wa,wa=wc:=⟨_,rfl⟩;rw[<- hwa] at HWW HCBb HWC HPB ⊢;clear hwa
    go_upto_region 11 with fail
    go_cut [11] from 30 to 90 (fun v wy=>∃h:Nat,v=.pointer (some ⟨h,0,none⟩)/\Hid (Turned (fun _=>False) wa wy/\wy.heap[h]? = some (.cells #[.bool bn,.string bx,.string bd] 68 (0,0))))
    case first =>
     have HCA:Hid (∀A,Turned (fun _=>False) wa A->(A.cell? ⟨W.heap.size,0,none⟩=some (.slice rp nr rc)/\A.cell? ⟨W.heap.size,1,none⟩=some (.slice (some ⟨lb,la,none⟩) nr lc)/\A.cell? ⟨W.heap.size,2,none⟩=some (.slice (some ⟨hb',ha',none⟩) nr hc))/\A.cell? ⟨hb',ha'+g*3,none⟩=some (.bool yn)/\A.cell? ⟨hb',ha'+g*3+1,none⟩=some (.string yx)/\A.cell? ⟨hb',ha'+g*3+2,none⟩=some (.string yd)):=zh fun A hA=>HCBb.out A hA
     have HD0:=zh (zr wa).drew;refine wp_region_plain (S:=fun A=>(A.cell? ⟨W.heap.size,0,none⟩=some (.slice rp nr rc)/\A.cell? ⟨W.heap.size,1,none⟩=some (.slice (some ⟨lb,la,none⟩) nr lc)/\A.cell? ⟨W.heap.size,2,none⟩=some (.slice (some ⟨hb',ha',none⟩) nr hc))/\A.cell? ⟨hb',ha'+g*3,none⟩=some (.bool yn)/\A.cell? ⟨hb',ha'+g*3+1,none⟩=some (.string yx)/\A.cell? ⟨hb',ha'+g*3+2,none⟩=some (.string yd)) (by kernel_rfl) ?_
     obtain⟨v0,hv0⟩ : ∃v,v=wa.drew:=⟨_,rfl⟩;rw[<- hv0] at HD0 ⊢;clear hv0;refine zt 0 (.agg #[.slice rp nr rc,.slice (some ⟨lb,la,none⟩) nr lc,.slice (some ⟨hb',ha',none⟩) nr hc]) rfl (Or.inl ⟨by kernel_rfl,fun V hV=>?_⟩) (HCA.out _ HD0.out) ?_
     ·obtain⟨⟨f0,f1,f2⟩,f3,f4,f5⟩:=hV;go_simp
     try simp only[zz0,zz1,zz2,Act.put,zz3,zz4,zz5]
     refine zt 1 (.pointer (some ⟨W.heap.size,1,none⟩)) rfl (Or.inl ⟨by kernel_rfl,fun V hV=>?_⟩) (HCA.out _ HD0.out) ?_
     ·obtain⟨⟨f0,f1,f2⟩,f3,f4,f5⟩:=hV;go_simp
     try simp only[zz0,zz1,zz2,Act.put,zz3,zz4,zz5]
     refine zt 2 (.slice (some ⟨lb,la,none⟩) nr lc) rfl (Or.inl ⟨by kernel_rfl,fun V hV=>?_⟩) (HCA.out _ HD0.out) ?_
     ·obtain⟨⟨f0,f1,f2⟩,f3,f4,f5⟩:=hV;go_simp
     try simp only[zz0,zz1,zz2,Act.put,zz3,zz4,zz5]
     refine zt 3 (.int .i64 g) rfl (Or.inl ⟨by kernel_rfl,fun V hV=>?_⟩) (HCA.out _ HD0.out) ?_
     ·obtain⟨⟨f0,f1,f2⟩,f3,f4,f5⟩:=hV;go_simp
     try simp only[zz0,zz1,zz2,Act.put,zz3,zz4,zz5]
     refine zt 4 (.pointer (some ⟨W.heap.size,2,none⟩)) rfl (Or.inl ⟨by kernel_rfl,fun V hV=>?_⟩) (HCA.out _ HD0.out) ?_
     ·obtain⟨⟨f0,f1,f2⟩,f3,f4,f5⟩:=hV;go_simp
     try simp only[zz0,zz1,zz2,Act.put,zz3,zz4,zz5]
     refine zt 5 (.slice (some ⟨hb',ha',none⟩) nr hc) rfl (Or.inl ⟨by kernel_rfl,fun V hV=>?_⟩) (HCA.out _ HD0.out) ?_
     ·obtain⟨⟨f0,f1,f2⟩,f3,f4,f5⟩:=hV;go_simp
     try simp only[zz0,zz1,zz2,Act.put,zz3,zz4,zz5]
     refine zt 6 (.int .i64 g) rfl (Or.inl ⟨by kernel_rfl,fun V hV=>?_⟩) (HCA.out _ HD0.out) ?_
     ·obtain⟨⟨f0,f1,f2⟩,f3,f4,f5⟩:=hV;go_simp
     try simp only[zz0,zz1,zz2,Act.put,zz3,zz4,zz5]
     refine zt 7 (.pointer (some ⟨hb',ha'+g*3,none⟩)) rfl (Or.inl ⟨by kernel_rfl,fun V hV=>?_⟩) (HCA.out _ HD0.out) ?_
     ·obtain⟨⟨f0,f1,f2⟩,f3,f4,f5⟩:=hV;go_simp
     try simp only[zz0,zz1,zz2,Act.put,zz3,zz4,zz5]
     refine zt 8 (.agg #[.bool yn,.string yx,.string yd]) rfl (Or.inl ⟨by kernel_rfl,fun V hV=>?_⟩) (HCA.out _ HD0.out) ?_
     ·obtain⟨⟨f0,f1,f2⟩,f3,f4,f5⟩:=hV;go_simp
     try simp only[zz0,zz1,zz2,Act.put,zz3,zz4,zz5]
     refine zt 11 (.slice cp nc cc) rfl (Or.inl ⟨by kernel_rfl,fun V hV=>?_⟩) (HCA.out _ HD0.out) ?_
     ·obtain⟨⟨f0,f1,f2⟩,f3,f4,f5⟩:=hV;go_simp
     try simp only[zz0,zz1,zz2,Act.put,zz3,zz4,zz5]
     refine zt 14 (.int .i64 k) rfl (Or.inl ⟨by kernel_rfl,fun V hV=>?_⟩) (HCA.out _ HD0.out) ?_
     ·obtain⟨⟨f0,f1,f2⟩,f3,f4,f5⟩:=hV;go_simp
     try simp only[zz0,zz1,zz2,Act.put,zz3,zz4,zz5]
     refine wpAnyH_ready (rs:=[9,17]) (by kernel_rfl) (by simp) ?_
     refine .cons (o:=_) rfl (fun K hK=>?_) ?_
     ·go_simp;refine(HWIb.out _ (HWW.out.trans HD0.out)).mono ?_;rintro e v1 ⟨q1,d1,rfl,ha1,tv1⟩;have HAT:=zh ha1;clear ha1;have Tv1:=zh (HD0.out.trans tv1);refine hK.out _ _ (HCA.out _ Tv1.out) (fun _=>?_)
      clear hK K tv1;try simp only[zz0,zz1,zz2,Act.put,zz3,zz4,zz5]
      refine wpAnyH_ready (rs:=[10,17]) (by kernel_rfl) (by simp) ?_
      refine .cons (o:=_) rfl (fun K hK=>?_) ?_
      ·go_simp;refine(lSupply_any _ _ _ _ _ _ _ _ _ _ _ _ _).mono ?_;rintro e v2 ⟨rfl,tv2⟩;replace HAT:=zh (HAT.out.on tv2);have Tv2:=zh (Tv1.out.trans tv2);refine hK.out _ _ (HCA.out _ Tv2.out) (fun _=>?_)
       clear hK K tv2;try simp only[zz0,zz1,zz2,Act.put,zz3,zz4,zz5]
       refine wpAnyH_ready (rs:=[12,17]) (by kernel_rfl) (by simp) ?_
       refine .cons (o:=_) rfl (fun K hK=>?_) ?_
       ·go_simp;refine(HALb.out _ (HWW.out.trans Tv2.out) q1 d1 HAT.out).mono ?_;rintro e v3 ⟨q2,d2,rfl,-,ha2,-,tv3⟩;obtain⟨qb,qa,rfl,-,m0,m1,m2⟩:=ha2.rats HTKb.out;have HMQ:=zh (And.intro m0 (And.intro m1 m2));clear ha2 m0 m1 m2 HAT;have Tv3:=zh (Tv2.out.trans tv3);refine hK.out _ _ (HCA.out _ Tv3.out) (fun _=>?_)
        clear hK K tv3;try simp only[zz0,zz1,zz2,Act.put,zz3,zz4,zz5]
        refine zt 13 (.slice (some ⟨qb,qa,none⟩) nc d2) rfl (Or.inl ⟨by kernel_rfl,fun V hV=>?_⟩) (HCA.out _ Tv3.out) ?_
        ·obtain⟨⟨f0,f1,f2⟩,f3,f4,f5⟩:=hV;go_simp
        try simp only[zz0,zz1,zz2,Act.put,zz3,zz4,zz5]
        refine zt 15 (.pointer (some ⟨qb,qa+k*3,none⟩)) rfl (Or.inl ⟨by kernel_rfl,fun V hV=>?_⟩) (HCA.out _ Tv3.out) ?_
        ·obtain⟨⟨f0,f1,f2⟩,f3,f4,f5⟩:=hV;go_simp
        try simp only[zz0,zz1,zz2,Act.put,zz3,zz4,zz5]
        refine wpAnyH_ready (rs:=[16,17]) (by kernel_rfl) (by simp) ?_
        refine .cons (o:=_) rfl (fun K hK=>?_) ?_
        ·obtain⟨m0,m1,m2⟩:=HMQ.out;go_simp;refine hK.out _ _ (HCA.out _ Tv3.out) (fun _=>?_)
         clear hK K;try simp only[zz0,zz1,zz2,Act.put,zz3,zz4,zz5]
         refine wpAnyH_ready (rs:=[17]) (by kernel_rfl) (by simp) ?_
         refine .cons (o:=_) rfl (fun K hK=>?_) ?_
         ·obtain⟨v5,hv5⟩ : ∃w,w=v3.alloc (.cells #[.bool false,.string ⟨#[]⟩,.string ⟨#[]⟩] 68):=⟨_,rfl⟩;obtain⟨M,hM⟩ : ∃M,v3.heap.size=M:=⟨_,rfl⟩;have tv5:=(zr v3).alloc (.cells #[.bool false,.string ⟨#[]⟩,.string ⟨#[]⟩] 68);have bv5:(v3.alloc (.cells #[.bool false,.string ⟨#[]⟩,.string ⟨#[]⟩] 68)).heap[v3.heap.size]? = some _:=World.alloc_heap_new _ _;rw[<- hv5] at tv5 bv5;rw[hM] at bv5;have HMM:Hid (wa.heap.size<=M):=zh (by rw[<- hM];exact Tv3.out.size)
          have HBX:=zh bv5
          (try replace HAT:=zh (HAT.out.on tv5))
          (try replace HMQ:=zh (And.intro (cellT tv5 id HMQ.out.1) (And.intro (cellT tv5 id HMQ.out.2.1) (cellT tv5 id HMQ.out.2.2))))
          have Tv5:=zh (Tv3.out.trans tv5);go_simp;try rw[hM]
          try rw[<- hv5]
          refine hK.out _ _ (HCA.out _ Tv5.out) (fun _=>?_)
          clear hK K hv5 hM bv5 tv5;try simp only[zz0,zz1,zz2,Act.put,zz3,zz4,zz5]
          refine wpAnyH_ready (rs:=[18]) (by kernel_rfl) (by simp) ?_
          refine .cons (o:=_) rfl (fun K hK=>?_) ?_
          ·obtain⟨o0,o1,o2,o3,o4,o5⟩:=box3 HBX.out;have hst:=set3 HBX.out (.bool bn) (.string bx) (.string bd);have HST2:=zh (And.intro (Tv5.out.fresh hst.2 fun i hi=>(by rw[hi];exact HMM.out:wa.heap.size<=i)) hst.1)
           clear hst;go_simp;refine hK.out _ _ (HCA.out _ HST2.out.1) (fun _=>?_)
           clear hK K o0 o1 o2 o3 o4 o5;refine wpAnyH_done (by kernel_rfl) ?_ _
           unfold OnlyN;go_wp2_with fail
           go_meet
           case rel=>exact⟨M,rfl,HST2⟩
          exact .nil
         exact .nil
        refine .cons (o:=_) rfl (fun K hK=>?_) ?_
        ·obtain⟨v7,hv7⟩ : ∃w,w=v3.alloc (.cells #[.bool false,.string ⟨#[]⟩,.string ⟨#[]⟩] 68):=⟨_,rfl⟩;obtain⟨M,hM⟩ : ∃M,v3.heap.size=M:=⟨_,rfl⟩;have tv7:=(zr v3).alloc (.cells #[.bool false,.string ⟨#[]⟩,.string ⟨#[]⟩] 68);have bv7:(v3.alloc (.cells #[.bool false,.string ⟨#[]⟩,.string ⟨#[]⟩] 68)).heap[v3.heap.size]? = some _:=World.alloc_heap_new _ _;rw[<- hv7] at tv7 bv7;rw[hM] at bv7;have HMM:Hid (wa.heap.size<=M):=zh (by rw[<- hM];exact Tv3.out.size)
         have HBX:=zh bv7
         (try replace HAT:=zh (HAT.out.on tv7))
         (try replace HMQ:=zh (And.intro (cellT tv7 id HMQ.out.1) (And.intro (cellT tv7 id HMQ.out.2.1) (cellT tv7 id HMQ.out.2.2))))
         have Tv7:=zh (Tv3.out.trans tv7);go_simp;try rw[hM]
         try rw[<- hv7]
         refine hK.out _ _ (HCA.out _ Tv7.out) (fun _=>?_)
         clear hK K hv7 hM bv7 tv7;try simp only[zz0,zz1,zz2,Act.put,zz3,zz4,zz5]
         refine wpAnyH_ready (rs:=[16]) (by kernel_rfl) (by simp) ?_
         refine .cons (o:=_) rfl (fun K hK=>?_) ?_
         ·obtain⟨m0,m1,m2⟩:=HMQ.out;go_simp;refine hK.out _ _ (HCA.out _ Tv7.out) (fun _=>?_)
          clear hK K;try simp only[zz0,zz1,zz2,Act.put,zz3,zz4,zz5]
          refine wpAnyH_ready (rs:=[18]) (by kernel_rfl) (by simp) ?_
          refine .cons (o:=_) rfl (fun K hK=>?_) ?_
          ·obtain⟨o0,o1,o2,o3,o4,o5⟩:=box3 HBX.out;have hst:=set3 HBX.out (.bool bn) (.string bx) (.string bd);have HST2:=zh (And.intro (Tv7.out.fresh hst.2 fun i hi=>(by rw[hi];exact HMM.out:wa.heap.size<=i)) hst.1)
           clear hst;go_simp;refine hK.out _ _ (HCA.out _ HST2.out.1) (fun _=>?_)
           clear hK K o0 o1 o2 o3 o4 o5;refine wpAnyH_done (by kernel_rfl) ?_ _
           unfold OnlyN;go_wp2_with fail
           go_meet
           case rel=>exact⟨M,rfl,HST2⟩
          exact .nil
         exact .nil
        exact .nil
       refine .cons (o:=_) rfl (fun K hK=>?_) ?_
       ·obtain⟨v10,hv10⟩ : ∃w,w=v2.alloc (.cells #[.bool false,.string ⟨#[]⟩,.string ⟨#[]⟩] 68):=⟨_,rfl⟩;obtain⟨M,hM⟩ : ∃M,v2.heap.size=M:=⟨_,rfl⟩;have tv10:=(zr v2).alloc (.cells #[.bool false,.string ⟨#[]⟩,.string ⟨#[]⟩] 68);have bv10:(v2.alloc (.cells #[.bool false,.string ⟨#[]⟩,.string ⟨#[]⟩] 68)).heap[v2.heap.size]? = some _:=World.alloc_heap_new _ _;rw[<- hv10] at tv10 bv10;rw[hM] at bv10;have HMM:Hid (wa.heap.size<=M):=zh (by rw[<- hM];exact Tv2.out.size)
        have HBX:=zh bv10
        (try replace HAT:=zh (HAT.out.on tv10))
        (try replace HMQ:=zh (And.intro (cellT tv10 id HMQ.out.1) (And.intro (cellT tv10 id HMQ.out.2.1) (cellT tv10 id HMQ.out.2.2))))
        have Tv10:=zh (Tv2.out.trans tv10);go_simp;try rw[hM]
        try rw[<- hv10]
        refine hK.out _ _ (HCA.out _ Tv10.out) (fun _=>?_)
        clear hK K hv10 hM bv10 tv10;try simp only[zz0,zz1,zz2,Act.put,zz3,zz4,zz5]
        refine wpAnyH_ready (rs:=[12]) (by kernel_rfl) (by simp) ?_
        refine .cons (o:=_) rfl (fun K hK=>?_) ?_
        ·go_simp;refine(HALb.out _ (HWW.out.trans Tv10.out) q1 d1 HAT.out).mono ?_;rintro e v11 ⟨q2,d2,rfl,-,ha2,-,tv11⟩;obtain⟨qb,qa,rfl,-,m0,m1,m2⟩:=ha2.rats HTKb.out;have HMQ:=zh (And.intro m0 (And.intro m1 m2));clear ha2 m0 m1 m2 HAT;have Tv11:=zh (Tv10.out.trans tv11);replace HBX:=zh (keepB tv11 HBX.out);refine hK.out _ _ (HCA.out _ Tv11.out) (fun _=>?_)
         clear hK K tv11;try simp only[zz0,zz1,zz2,Act.put,zz3,zz4,zz5]
         refine zt 13 (.slice (some ⟨qb,qa,none⟩) nc d2) rfl (Or.inl ⟨by kernel_rfl,fun V hV=>?_⟩) (HCA.out _ Tv11.out) ?_
         ·obtain⟨⟨f0,f1,f2⟩,f3,f4,f5⟩:=hV;go_simp
         try simp only[zz0,zz1,zz2,Act.put,zz3,zz4,zz5]
         refine zt 15 (.pointer (some ⟨qb,qa+k*3,none⟩)) rfl (Or.inl ⟨by kernel_rfl,fun V hV=>?_⟩) (HCA.out _ Tv11.out) ?_
         ·obtain⟨⟨f0,f1,f2⟩,f3,f4,f5⟩:=hV;go_simp
         try simp only[zz0,zz1,zz2,Act.put,zz3,zz4,zz5]
         refine wpAnyH_ready (rs:=[16]) (by kernel_rfl) (by simp) ?_
         refine .cons (o:=_) rfl (fun K hK=>?_) ?_
         ·obtain⟨m0,m1,m2⟩:=HMQ.out;go_simp;refine hK.out _ _ (HCA.out _ Tv11.out) (fun _=>?_)
          clear hK K;try simp only[zz0,zz1,zz2,Act.put,zz3,zz4,zz5]
          refine wpAnyH_ready (rs:=[18]) (by kernel_rfl) (by simp) ?_
          refine .cons (o:=_) rfl (fun K hK=>?_) ?_
          ·obtain⟨o0,o1,o2,o3,o4,o5⟩:=box3 HBX.out;have hst:=set3 HBX.out (.bool bn) (.string bx) (.string bd);have HST2:=zh (And.intro (Tv11.out.fresh hst.2 fun i hi=>(by rw[hi];exact HMM.out:wa.heap.size<=i)) hst.1)
           clear hst;go_simp;refine hK.out _ _ (HCA.out _ HST2.out.1) (fun _=>?_)
           clear hK K o0 o1 o2 o3 o4 o5;refine wpAnyH_done (by kernel_rfl) ?_ _
           unfold OnlyN;go_wp2_with fail
           go_meet
           case rel=>exact⟨M,rfl,HST2⟩
          exact .nil
         exact .nil
        exact .nil
       exact .nil
      refine .cons (o:=_) rfl (fun K hK=>?_) ?_
      ·obtain⟨v14,hv14⟩ : ∃w,w=v1.alloc (.cells #[.bool false,.string ⟨#[]⟩,.string ⟨#[]⟩] 68):=⟨_,rfl⟩;obtain⟨M,hM⟩ : ∃M,v1.heap.size=M:=⟨_,rfl⟩;have tv14:=(zr v1).alloc (.cells #[.bool false,.string ⟨#[]⟩,.string ⟨#[]⟩] 68);have bv14:(v1.alloc (.cells #[.bool false,.string ⟨#[]⟩,.string ⟨#[]⟩] 68)).heap[v1.heap.size]? = some _:=World.alloc_heap_new _ _;rw[<- hv14] at tv14 bv14;rw[hM] at bv14;have HMM:Hid (wa.heap.size<=M):=zh (by rw[<- hM];exact Tv1.out.size)
       have HBX:=zh bv14
       (try replace HAT:=zh (HAT.out.on tv14))
       (try replace HMQ:=zh (And.intro (cellT tv14 id HMQ.out.1) (And.intro (cellT tv14 id HMQ.out.2.1) (cellT tv14 id HMQ.out.2.2))))
       have Tv14:=zh (Tv1.out.trans tv14);go_simp;try rw[hM]
       try rw[<- hv14]
       refine hK.out _ _ (HCA.out _ Tv14.out) (fun _=>?_)
       clear hK K hv14 hM bv14 tv14;try simp only[zz0,zz1,zz2,Act.put,zz3,zz4,zz5]
       refine wpAnyH_ready (rs:=[10]) (by kernel_rfl) (by simp) ?_
       refine .cons (o:=_) rfl (fun K hK=>?_) ?_
       ·go_simp;refine(lSupply_any _ _ _ _ _ _ _ _ _ _ _ _ _).mono ?_;rintro e v15 ⟨rfl,tv15⟩;replace HAT:=zh (HAT.out.on tv15);have Tv15:=zh (Tv14.out.trans tv15);replace HBX:=zh (keepB tv15 HBX.out);refine hK.out _ _ (HCA.out _ Tv15.out) (fun _=>?_)
        clear hK K tv15;try simp only[zz0,zz1,zz2,Act.put,zz3,zz4,zz5]
        refine wpAnyH_ready (rs:=[12]) (by kernel_rfl) (by simp) ?_
        refine .cons (o:=_) rfl (fun K hK=>?_) ?_
        ·go_simp;refine(HALb.out _ (HWW.out.trans Tv15.out) q1 d1 HAT.out).mono ?_;rintro e v16 ⟨q2,d2,rfl,-,ha2,-,tv16⟩;obtain⟨qb,qa,rfl,-,m0,m1,m2⟩:=ha2.rats HTKb.out;have HMQ:=zh (And.intro m0 (And.intro m1 m2));clear ha2 m0 m1 m2 HAT;have Tv16:=zh (Tv15.out.trans tv16);replace HBX:=zh (keepB tv16 HBX.out);refine hK.out _ _ (HCA.out _ Tv16.out) (fun _=>?_)
         clear hK K tv16;try simp only[zz0,zz1,zz2,Act.put,zz3,zz4,zz5]
         refine zt 13 (.slice (some ⟨qb,qa,none⟩) nc d2) rfl (Or.inl ⟨by kernel_rfl,fun V hV=>?_⟩) (HCA.out _ Tv16.out) ?_
         ·obtain⟨⟨f0,f1,f2⟩,f3,f4,f5⟩:=hV;go_simp
         try simp only[zz0,zz1,zz2,Act.put,zz3,zz4,zz5]
         refine zt 15 (.pointer (some ⟨qb,qa+k*3,none⟩)) rfl (Or.inl ⟨by kernel_rfl,fun V hV=>?_⟩) (HCA.out _ Tv16.out) ?_
         ·obtain⟨⟨f0,f1,f2⟩,f3,f4,f5⟩:=hV;go_simp
         try simp only[zz0,zz1,zz2,Act.put,zz3,zz4,zz5]
         refine wpAnyH_ready (rs:=[16]) (by kernel_rfl) (by simp) ?_
         refine .cons (o:=_) rfl (fun K hK=>?_) ?_
         ·obtain⟨m0,m1,m2⟩:=HMQ.out;go_simp;refine hK.out _ _ (HCA.out _ Tv16.out) (fun _=>?_)
          clear hK K;try simp only[zz0,zz1,zz2,Act.put,zz3,zz4,zz5]
          refine wpAnyH_ready (rs:=[18]) (by kernel_rfl) (by simp) ?_
          refine .cons (o:=_) rfl (fun K hK=>?_) ?_
          ·obtain⟨o0,o1,o2,o3,o4,o5⟩:=box3 HBX.out;have hst:=set3 HBX.out (.bool bn) (.string bx) (.string bd);have HST2:=zh (And.intro (Tv16.out.fresh hst.2 fun i hi=>(by rw[hi];exact HMM.out:wa.heap.size<=i)) hst.1)
           clear hst;go_simp;refine hK.out _ _ (HCA.out _ HST2.out.1) (fun _=>?_)
           clear hK K o0 o1 o2 o3 o4 o5;refine wpAnyH_done (by kernel_rfl) ?_ _
           unfold OnlyN;go_wp2_with fail
           go_meet
           case rel=>exact⟨M,rfl,HST2⟩
          exact .nil
         exact .nil
        exact .nil
       exact .nil
      exact .nil
     refine .cons (o:=_) rfl (fun K hK=>?_) ?_
     ·obtain⟨v19,hv19⟩ : ∃w,w=v0.alloc (.cells #[.bool false,.string ⟨#[]⟩,.string ⟨#[]⟩] 68):=⟨_,rfl⟩;obtain⟨M,hM⟩ : ∃M,v0.heap.size=M:=⟨_,rfl⟩;have tv19:=(zr v0).alloc (.cells #[.bool false,.string ⟨#[]⟩,.string ⟨#[]⟩] 68);have bv19:(v0.alloc (.cells #[.bool false,.string ⟨#[]⟩,.string ⟨#[]⟩] 68)).heap[v0.heap.size]? = some _:=World.alloc_heap_new _ _;rw[<- hv19] at tv19 bv19;rw[hM] at bv19;have HMM:Hid (wa.heap.size<=M):=zh (by rw[<- hM];exact HD0.out.size)
      have HBX:=zh bv19
      (try replace HAT:=zh (HAT.out.on tv19))
      (try replace HMQ:=zh (And.intro (cellT tv19 id HMQ.out.1) (And.intro (cellT tv19 id HMQ.out.2.1) (cellT tv19 id HMQ.out.2.2))))
      have Tv19:=zh (HD0.out.trans tv19);go_simp;try rw[hM]
      try rw[<- hv19]
      refine hK.out _ _ (HCA.out _ Tv19.out) (fun _=>?_)
      clear hK K hv19 hM bv19 tv19;try simp only[zz0,zz1,zz2,Act.put,zz3,zz4,zz5]
      refine wpAnyH_ready (rs:=[9]) (by kernel_rfl) (by simp) ?_
      refine .cons (o:=_) rfl (fun K hK=>?_) ?_
      ·go_simp;refine(HWIb.out _ (HWW.out.trans Tv19.out)).mono ?_;rintro e v20 ⟨q1,d1,rfl,ha1,tv20⟩;have HAT:=zh ha1;clear ha1;have Tv20:=zh (Tv19.out.trans tv20);replace HBX:=zh (keepB tv20 HBX.out);refine hK.out _ _ (HCA.out _ Tv20.out) (fun _=>?_)
       clear hK K tv20;try simp only[zz0,zz1,zz2,Act.put,zz3,zz4,zz5]
       refine wpAnyH_ready (rs:=[10]) (by kernel_rfl) (by simp) ?_
       refine .cons (o:=_) rfl (fun K hK=>?_) ?_
       ·go_simp;refine(lSupply_any _ _ _ _ _ _ _ _ _ _ _ _ _).mono ?_;rintro e v21 ⟨rfl,tv21⟩;replace HAT:=zh (HAT.out.on tv21);have Tv21:=zh (Tv20.out.trans tv21);replace HBX:=zh (keepB tv21 HBX.out);refine hK.out _ _ (HCA.out _ Tv21.out) (fun _=>?_)
        clear hK K tv21;try simp only[zz0,zz1,zz2,Act.put,zz3,zz4,zz5]
        refine wpAnyH_ready (rs:=[12]) (by kernel_rfl) (by simp) ?_
        refine .cons (o:=_) rfl (fun K hK=>?_) ?_
        ·go_simp;refine(HALb.out _ (HWW.out.trans Tv21.out) q1 d1 HAT.out).mono ?_;rintro e v22 ⟨q2,d2,rfl,-,ha2,-,tv22⟩;obtain⟨qb,qa,rfl,-,m0,m1,m2⟩:=ha2.rats HTKb.out;have HMQ:=zh (And.intro m0 (And.intro m1 m2));clear ha2 m0 m1 m2 HAT;have Tv22:=zh (Tv21.out.trans tv22);replace HBX:=zh (keepB tv22 HBX.out);refine hK.out _ _ (HCA.out _ Tv22.out) (fun _=>?_)
         clear hK K tv22;try simp only[zz0,zz1,zz2,Act.put,zz3,zz4,zz5]
         refine zt 13 (.slice (some ⟨qb,qa,none⟩) nc d2) rfl (Or.inl ⟨by kernel_rfl,fun V hV=>?_⟩) (HCA.out _ Tv22.out) ?_
         ·obtain⟨⟨f0,f1,f2⟩,f3,f4,f5⟩:=hV;go_simp
         try simp only[zz0,zz1,zz2,Act.put,zz3,zz4,zz5]
         refine zt 15 (.pointer (some ⟨qb,qa+k*3,none⟩)) rfl (Or.inl ⟨by kernel_rfl,fun V hV=>?_⟩) (HCA.out _ Tv22.out) ?_
         ·obtain⟨⟨f0,f1,f2⟩,f3,f4,f5⟩:=hV;go_simp
         try simp only[zz0,zz1,zz2,Act.put,zz3,zz4,zz5]
         refine wpAnyH_ready (rs:=[16]) (by kernel_rfl) (by simp) ?_
         refine .cons (o:=_) rfl (fun K hK=>?_) ?_
         ·obtain⟨m0,m1,m2⟩:=HMQ.out;go_simp;refine hK.out _ _ (HCA.out _ Tv22.out) (fun _=>?_)
          clear hK K;try simp only[zz0,zz1,zz2,Act.put,zz3,zz4,zz5]
          refine wpAnyH_ready (rs:=[18]) (by kernel_rfl) (by simp) ?_
          refine .cons (o:=_) rfl (fun K hK=>?_) ?_
          ·obtain⟨o0,o1,o2,o3,o4,o5⟩:=box3 HBX.out;have hst:=set3 HBX.out (.bool bn) (.string bx) (.string bd);have HST2:=zh (And.intro (Tv22.out.fresh hst.2 fun i hi=>(by rw[hi];exact HMM.out:wa.heap.size<=i)) hst.1)
           clear hst;go_simp;refine hK.out _ _ (HCA.out _ HST2.out.1) (fun _=>?_)
           clear hK K o0 o1 o2 o3 o4 o5;refine wpAnyH_done (by kernel_rfl) ?_ _
           unfold OnlyN;go_wp2_with fail
           go_meet
           case rel=>exact⟨M,rfl,HST2⟩
          exact .nil
         exact .nil
        exact .nil
       exact .nil
      exact .nil
     exact .nil
    case rest =>
     obtain⟨pb,rfl,HPC⟩:=hcut;have HT2:=zh (HWC.out.trans HPC.out.1);obtain⟨⟨x0,x1⟩,⟨l0,l1,l2⟩,⟨m0,m1,m2⟩,-⟩:=HCX.out wc (HI.out.2.trans HT2.out);obtain⟨n0,n1,n2,-,-,-⟩:=box3 (keepB HPC.out.1 HPB.out);obtain⟨o0,o1,o2,-,-,-⟩:=box3 HPC.out.2;have ha:=HSA.out.1;have hb:=HSA.out.2
     go_upto_region 12 with fail
     cases sa
     ·have HS2:Hid (mt (g+1)=mt g++[(g:Int)]):=zh (HST.out.trans (if_pos (by simp)))
      go_quiet (fail)
      have HTB:=zh (HT2.out.trans (drewN_turned (fun _=>False) wc nq))
      have HG:=zh (HI.out.1.turned HTB.out fun _ h=>h.elim)
      have HZ:=zh (Nat.le_trans HI.out.2.size HTB.out.size);clear x0 x1 l0 l1 l2 m0 m1 m2 n0 n1 n2 o0 o1 o2 ha hb;generalize wc.drewN nq=w2 at *;go_wp2_with (at_builtin;(refine app_int w2 rfl _ _ rfl w1.heap.size (.slice p (mt g).length c) (g:Int) (mt g) rfl rfl HG.out HZ.out (by omega) ?_);intro p' c' w4 ho4 ht4;have HS:=zh (And.intro ho4 ht4);clear ho4 ht4)
      go_roundw
      case rel=>exact⟨g+1,p',c',by omega,by go_num,by rw[HS2.out];simp,zh ⟨by rw[HS2.out];exact HS.out.1,(HI.out.2.trans HTB.out).fresh HS.out.2 fun _=>id⟩⟩
      case measure=>simp[intOf];omega
     cases sb
     ·have HS2:Hid (mt (g+1)=mt g++[(g:Int)]):=zh (HST.out.trans (if_pos (by simp)))
      go_quiet (fail)
      have HTB:=zh (HT2.out.trans (drewN_turned (fun _=>False) wc nq))
      have HG:=zh (HI.out.1.turned HTB.out fun _ h=>h.elim)
      have HZ:=zh (Nat.le_trans HI.out.2.size HTB.out.size);clear x0 x1 l0 l1 l2 m0 m1 m2 n0 n1 n2 o0 o1 o2 ha hb;generalize wc.drewN nq=w2 at *;go_wp2_with (at_builtin;(refine app_int w2 rfl _ _ rfl w1.heap.size (.slice p (mt g).length c) (g:Int) (mt g) rfl rfl HG.out HZ.out (by omega) ?_);intro p' c' w4 ho4 ht4;have HS:=zh (And.intro ho4 ht4);clear ho4 ht4)
      go_roundw
      case rel=>exact⟨g+1,p',c',by omega,by go_num,by rw[HS2.out];simp,zh ⟨by rw[HS2.out];exact HS.out.1,(HI.out.2.trans HTB.out).fresh HS.out.2 fun _=>id⟩⟩
      case measure=>simp[intOf];omega
     ·have HS2:Hid (mt (g+1)=mt g):=zh (HST.out.trans (if_neg (by simp)))
      go_quiet (fail)
      have HTB:=zh (HT2.out.trans (drewN_turned (fun _=>False) wc nq))
      have HG:=zh (HI.out.1.turned HTB.out fun _ h=>h.elim)
      clear x0 x1 l0 l1 l2 m0 m1 m2 n0 n1 n2 o0 o1 o2 ha hb;generalize wc.drewN nq=w2 at *;go_wp2_with fail
      go_roundw
      case rel=>exact⟨g+1,p,c,by omega,by go_num,by rw[HS2.out],zh ⟨by rw[HS2.out];exact HG.out,HI.out.2.trans HTB.out⟩⟩
      case measure=>simp[intOf];omega
  ·obtain rfl:g=nr:=by omega
   have HBR:=zh (keepB HI.out.2 HB1.out);obtain⟨x0,x1,x2,x3⟩:=box2' HBR.out;go_wp2_with fail;have HK:=set2' HBR.out (.slice p (mt g).length c) (.int .i64 0);refine bodyPost_ret (results_lMatters _ _ (W.heap.size+1) _ _ rfl HK.1) rfl ?_;have hsz:=getElem?_lt HB1.out;have hgr:=(HI.out.1.turned HK.2 fun g hg=>by omega).at_ (fun _=>rfl) (Nat.le_refl _)
   exact⟨p,c,rfl,hgr,(HT1.out.trans HI.out.2).fresh HK.2 fun g hg=>by omega⟩
end
end Go.Proofs.YtanhhdndgkhcfaaGreatDoor
