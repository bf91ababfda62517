/- Part 34 of the proof of lawSpec.card: OrdMatters. Conditions: those of each theorem. -/
import Derived.Test.YtanhhdndgkhcfaaGreatDoorSp01
import Derived.Test.YtanhhdndgkhcfaaGreatDoorSp33
set_option maxRecDepth 20000
set_option maxHeartbeats 8000000
namespace Go.Proofs.YtanhhdndgkhcfaaGreatDoor
open Go Go.Proofs Go.RowKit
attribute [local go_sem] Oper.semAt_some
attribute [local go_sem ↓] run_eql_rat' run_neq_rat'
theorem oMattersE_any(rs:List Rc) (us:List Rv) (cs:List Cl) (rp gp cp lp hp:Option Addr) (rc gc cc nl lc nh hc fb cb kb g k n m:Nat) (bn tn:Bool) (bx bd tx td:ByteArray) (W:World) (hr:RivAt W.heap.size W rs rp rc) (hg:At W.heap.size W 3 ratCells us gp gc) (hcl:At W.heap.size W 5 claimCells cs cp cc)
  (hfb:W.heap[fb]? = some (.cells #[.slice rp n rc,.slice lp nl lc,.slice hp nh hc] 25 (0,0))) (hcb:W.heap[cb]? = some (.cells #[.slice cp m cc] 26 (0,0))) (hkb:W.heap[kb]? = some (.cells #[.int .i64 k] 3 (0,0)))
  (hn:rs.length=n) (hm:cs.length=m) (hul:us.length=n) (hgn:g < n) (hkm:k < m)
  (hok:supE rs (us.set g ⟨bn,bx,bd⟩) cs=0) (hn8:n<=8) (hm12:m<=12) (su:∀u∈us,SzR u 20) (sb:SzR ⟨bn,bx,bd⟩ 20) (sc:∀c∈cs,SzR c.amt 20) :
  Calls Tryz.prog 47 #[.slice gp n gc,.int .i64 g,.agg #[.bool bn,.string bx,.string bd],.agg #[.bool tn,.string tx,.string td],.pointer (some ⟨fb,0,none⟩),.pointer (some ⟨cb,0,none⟩),.pointer (some ⟨kb,0,none⟩)] W fun e w' =>
   e=.returned (.bool (!sameR ((takesR rs cs (us.set g ⟨bn,bx,bd⟩)).getD k zeroR) ⟨tn,tx,td⟩))/\Turned (fun _=>False) W w':=by
 have HT:=zh (fun A (hA:Turned (fun _=>False) W A) (op:Option Addr) (oc:Nat) (ho:At A.heap.size A 3 ratCells (us.set g ⟨bn,bx,bd⟩) op oc)=>hTakes_any rs (us.set g ⟨bn,bx,bd⟩) cs rp op cp rc oc cc A ((hr.turned hA).mono hA.size) ho (hcl.on hA) hok (by rw[hn];exact hn8) (by rw[hm];exact hm12)
  (fun u hu=>by
   rcases List.mem_or_eq_of_mem_set hu with h | h
   ·exact su u h
   ·rw[h];exact sb) sc)
 rw[List.length_set,hn,hm,hul] at HT;have htl:(takesR rs cs (us.set g ⟨bn,bx,bd⟩)).length=m:=by rw[<- hm];exact repL_len _ _
 obtain⟨tl,htq⟩ : ∃t,takesR rs cs (us.set g ⟨bn,bx,bd⟩)=t:=⟨_,rfl⟩;rw[htq] at HT htl ⊢;have hy:tl[k]? = some (tl[k]'(by rw[htl];exact hkm)):=List.getElem?_eq_getElem _
 obtain⟨⟨yn,yx,yd⟩,hye⟩ : ∃u,tl[k]'(by rw[htl];exact hkm)=u:=⟨_,rfl⟩
 rw[hye] at hy;rw[getD_of hy];obtain⟨s,hs⟩ : ∃s,sameR ⟨yn,yx,yd⟩ ⟨tn,tx,td⟩=s:=⟨_,rfl⟩;rw[hs];have HY:=zh hy;have HUL:=zh hul;have HGA:=zh hg;have HBX:=zh (And.intro hfb (And.intro hcb hkb));have hmk:∀w:World,(Instr.makeSlice 23 (.int .i64 n) (.int .i64 n)).run Tryz.prog w=.ok (.slice (some ⟨w.heap.size,0,none⟩) n n) (w.alloc (.cells (madeCells #[.bool false,.string ⟨#[]⟩,.string ⟨#[]⟩] (n*3)) 68)):=fun w=>make_rats w n (by omega)
 have T3:=(((zr W).alloc (.cells #[.bool bn,.string bx,.string bd] 68)).alloc (.cells #[.bool tn,.string tx,.string td] 68)).alloc (.cells (madeCells #[.bool false,.string ⟨#[]⟩,.string ⟨#[]⟩] (n*3)) 68);have q0:=keepB ((zr _).alloc (.cells (madeCells #[.bool false,.string ⟨#[]⟩,.string ⟨#[]⟩] (n*3)) 68)) (new_first W (.cells #[.bool bn,.string bx,.string bd] 68) (.cells #[.bool tn,.string tx,.string td] 68));have q1:=keepB ((zr _).alloc (.cells (madeCells #[.bool false,.string ⟨#[]⟩,.string ⟨#[]⟩] (n*3)) 68)) (new_second W (.cells #[.bool bn,.string bx,.string bd] 68) (.cells #[.bool tn,.string tx,.string td] 68));have q2:=OwnR.made ((W.alloc (.cells #[.bool bn,.string bx,.string bd] 68)).alloc (.cells #[.bool tn,.string tx,.string td] 68)) n;have q3:((W.alloc (.cells #[.bool bn,.string bx,.string bd] 68)).alloc (.cells #[.bool tn,.string tx,.string td] 68)).heap.size=W.heap.size+1+1:=by simp
 rw[q3] at q2;obtain⟨w3,hw3⟩ : ∃w,w=(((W.alloc (.cells #[.bool bn,.string bx,.string bd] 68)).alloc (.cells #[.bool tn,.string tx,.string td] 68)).alloc (.cells (madeCells #[.bool false,.string ⟨#[]⟩,.string ⟨#[]⟩] (n*3)) 68)):=⟨_,rfl⟩;rw[<- hw3] at T3 q0 q1 q2;have HQ:=zh (And.intro q0 (And.intro q1 (And.intro q2 T3)));obtain⟨w4,hrun,ho4,ht4⟩:=run_copy_rats (ty:=3) w3 q2 (by rw[List.length_replicate,hul]) (hg.turned T3)
 rw[hul,hw3] at hrun;have hst:=OwnR.set ho4 (i:=g) (by rw[hul];exact hgn) ⟨bn,bx,bd⟩
 obtain⟨⟨zn,zx,zd⟩,hz⟩ : ∃u,us[g]? = some u:=⟨_,List.getElem?_eq_getElem (by rw[hul];exact hgn)⟩
 obtain⟨p0,p1,p2⟩:=OwnR.cells ho4 hz;have p3:=OwnR.free ho4 (g*3);have p4:=OwnR.free ho4 (g*3+1);have p5:=OwnR.free ho4 (g*3+2);have hbw:¬W.heap.size=W.heap.size+1+1:=by omega
 obtain⟨r0,r1,r2,-,-,-⟩:=box3 ((ht4.block W.heap.size (getElem?_lt q0) hbw).trans q0);have HS4:=zh (And.intro ht4 hst);have hg0:(0:Int)<=g:=by omega
 have hg1:(g:Int) < n:=by omega
 have hk0:(0:Int)<=k:=by omega
 have hk1:(k:Int) < m:=by omega
 have hnm:(n:Int)<=8:=by omega
 clear hr hg hcl hfb hcb hkb hn hm hul hok hn8 hm12 su sb sc htl htq hy hye q0 q1 q2 q3 T3 hst ho4 ht4 hbw hw3 hz;go_enter Tryz.func47,Tryz.ntmps47;go_wp2_with fail;obtain⟨w5,hw5⟩ : ∃w,w=((w4.setCell ⟨W.heap.size+1+1,g*3,none⟩ (.bool bn)).setCell ⟨W.heap.size+1+1,g*3+1,none⟩ (.string bx)).setCell ⟨W.heap.size+1+1,g*3+2,none⟩ (.string bd):=⟨_,rfl⟩;rw[<- hw5];have HS5:Hid (OwnR w5 (W.heap.size+1+1) (us.set g ⟨bn,bx,bd⟩)/\Turned (fun i=>i=W.heap.size+1+1) w3 w5):=zh (by
  rw[hw5];exact⟨HS4.out.2.1,HS4.out.1.trans HS4.out.2.2⟩)
 have HT5:Hid (Turned (fun _=>False) W w5):=zh (HQ.out.2.2.2.fresh HS5.out.2 fun g hg=>by omega)
 have HBT:Hid (w5.heap[W.heap.size+1]? = some (.cells #[.bool tn,.string tx,.string td] 68 (0,0))):=zh ((HS5.out.2.block (W.heap.size+1) (getElem?_lt HQ.out.2.1) (by omega)).trans HQ.out.2.1)
 have HAT:=zh (HS5.out.1.at_ HS5.out.1.lt (by rw[List.length_set,HUL.out];unfold maxLen;omega))
 have CE:∀A,Turned (fun _=>False) w5 A->(A.cell? ⟨fb,0,none⟩=some (.slice rp n rc)/\A.cell? ⟨fb,1,none⟩=some (.slice lp nl lc)/\A.cell? ⟨fb,2,none⟩=some (.slice hp nh hc))/\A.cell? ⟨cb,0,none⟩=some (.slice cp m cc):=fun A hA=>by
  have h0:=keepB hA (keepB HT5.out HBX.out.1);have h1:=keepB hA (keepB HT5.out HBX.out.2.1);exact⟨⟨by simp[World.cell?,h0],by simp[World.cell?,h0],by simp[World.cell?,h0]⟩,by simp[World.cell?,h1]⟩
 have HCE:=zh CE;have HD:=zh ((zr w5).drew);have HK0:=zh (CE _ (zr w5).drew);have hal:(us.set g ⟨bn,bx,bd⟩).length=n:=by rw[List.length_set,HUL.out]
 rw[hal] at HAT;have HTK:=zh (fun A (hA:Turned (fun _=>False) w5 A)=>HT.out A (HT5.out.trans hA) _ _ (HAT.out.on hA))
 clear CE hw5 p0 p1 p2 p3 p4 p5 r0 r1 r2 hmk hrun hal
 go_region_held3 (fun V=>(V.cell? ⟨fb,0,none⟩=some (.slice rp n rc)/\V.cell? ⟨fb,1,none⟩=some (.slice lp nl lc)/\V.cell? ⟨fb,2,none⟩=some (.slice hp nh hc))/\V.cell? ⟨cb,0,none⟩=some (.slice cp m cc))
  (first | exact HK2.out | exact HK1.out | exact HK0.out | go_keep)
  (first
   | (have hq:=HK1;clear hq;go_at_call 28;refine(HTK.out _ HT1.out).mono ?_;rintro e w7 ⟨tk,rfl,h1,h2,-,t2⟩;have HT2:=zh (HT1.out.trans t2);have HK2:Hid _:=zh (HCE.out _ HT2.out);have HR:=zh h2;clear h1 h2 t2)
   | (go_at_call 41;refine(oSupply_any rp lp hp (some ⟨W.heap.size+1+1,0,none⟩) n nl nh n rc lc hc n _).mono ?_;rintro e w6 ⟨rfl,t1⟩;have HT1:=zh (HD.out.trans t1);have HK1:Hid _:=zh (HCE.out _ HT1.out);clear t1))
 have hkc:=cell_of_box (keepB HT2.out (keepB HT5.out HBX.out.2.2));obtain⟨r0,r1,r2,-,-,-⟩:=box3 (keepB HT2.out HBT.out);obtain⟨g0,g1,g2⟩:=HR.out.cells HY.out;go_wp2_with fail
 go_quiet (fail)
 go_wp2_with fail;go_ret;exact⟨rfl,(HT5.out.trans HT2.out).trans (drewN_turned _ _ nq)⟩
theorem supE_set{rs:List Rc} {us vs:List Rv} {cs:List Cl} (h1:supE rs us cs=0) (h2:supE rs vs cs=0) {g:Nat} {v:Rv} (hv:v∈vs):supE rs (us.set g v) cs=0:=by
 have s2:=(supE_zero h2).nat v hv;have s1:=(supE_zero h1).nat;have hl:=(supE_zero h1).len;have hall:((us.set g v).any fun u=>!natR u)=false:=by
  rw[List.any_eq_false];intro u hu;rcases List.mem_or_eq_of_mem_set hu with h | h
  ·rw[s1 u h];simp
  ·rw[h,s2];simp
 unfold supE at h1 ⊢;split at h1
 ·rename_i h3;exact absurd h1 h3
 rename_i h3
 rw[if_neg h3];split at h1
 ·cases h1
 rw[if_neg (by rw[List.length_set,hall,hl];simp)]
 exact h1
def changeB (rs:List Rc) (cs:List Cl) (us vs:List Rv) (k g:Nat):Bool:=!sameR ((takesR rs cs (us.set g (vs.getD g zeroR))).getD k zeroR) ((takesR rs cs us).getD k zeroR)
def matB (rs:List Rc) (cs:List Cl) (lo hi:List Rv) (k g:Nat):Bool:=changeB rs cs hi lo k g || changeB rs cs lo hi k g
def matTo (rs:List Rc) (cs:List Cl) (lo hi:List Rv) (k j:Nat):List Int:=((List.range j).filter (matB rs cs lo hi k)).map fun(i:Nat)=>(i:Int)
theorem matTo_succ(rs:List Rc) (cs:List Cl) (lo hi:List Rv) (k j:Nat):matTo rs cs lo hi k (j+1)=if matB rs cs lo hi k j=true then matTo rs cs lo hi k j++[(j:Int)] else matTo rs cs lo hi k j:=by
 unfold matTo;rw[List.range_succ,List.filter_append,List.map_append,List.filter_cons,List.filter_nil];split <;> simp
theorem matTo_len(rs:List Rc) (cs:List Cl) (lo hi:List Rv) (k j:Nat):(matTo rs cs lo hi k j).length<=j:=by
 unfold matTo;rw[List.length_map];exact Nat.le_trans (List.length_filter_le _ _) (Nat.le_of_eq List.length_range)
section
variable {rs:List Rc} {lo hi:List Rv} {cs:List Cl} {rp lp hp cp:Option Addr} {rc lc hc cc:Nat} {W:World}
theorem oMatters_bad(h:OIn W rs lo hi cs rp lp hp cp rc lc hc cc) {ev:Int} (he:ordE rs lo hi cs=ev) (h0:ev≠0) (k:Int) :
  Calls Tryz.prog 17 #[.agg #[.slice rp rs.length rc,.slice lp lo.length lc,.slice hp hi.length hc],.slice cp cs.length cc,.int .i64 k] W fun e w'=>e=.returned (.tuple #[.slice none 0 0,.int .i64 ev])/\Turned (fun _=>False) W w':=by
 have HC:=zh (fun A (hA:Turned (fun _=>False) W A)=>oLimits_bad (h.on hA) he h0)
 obtain⟨nr,hnr⟩ : ∃n,rs.length=n:=⟨_,rfl⟩;obtain⟨nl,hnl⟩ : ∃n,lo.length=n:=⟨_,rfl⟩;obtain⟨nh,hnh⟩ : ∃n,hi.length=n:=⟨_,rfl⟩;obtain⟨nc,hnc⟩ : ∃n,cs.length=n:=⟨_,rfl⟩;rw[hnr,hnl,hnh,hnc] at HC ⊢;have g2:(ev == 0)=false:=by simpa using h0
 have g3:(ev != 0)=true:=by simpa using h0
 have HT:=zh ((((zr W).alloc (.cells #[.slice rp nr rc,.slice lp nl lc,.slice hp nh hc] 25)).alloc (.cells #[.slice cp nc cc] 26)).alloc (.cells #[.int .i64 k] 3));have d1:=keepB ((zr _).alloc (.cells #[.int .i64 k] 3)) (new_second W (.cells #[.slice rp nr rc,.slice lp nl lc,.slice hp nh hc] 25) (.cells #[.slice cp nc cc] 26));have d0:=keepB ((zr _).alloc (.cells #[.int .i64 k] 3)) (new_first W (.cells #[.slice rp nr rc,.slice lp nl lc,.slice hp nh hc] 25) (.cells #[.slice cp nc cc] 26));have c1:=cell_of_box d1;have c0:(((W.alloc (.cells #[.slice rp nr rc,.slice lp nl lc,.slice hp nh hc] 25)).alloc (.cells #[.slice cp nc cc] 26)).alloc (.cells #[.int .i64 k] 3)).cell? ⟨W.heap.size,0,none⟩=some (.slice rp nr rc):=by simp[World.cell?,d0]
 have c2:(((W.alloc (.cells #[.slice rp nr rc,.slice lp nl lc,.slice hp nh hc] 25)).alloc (.cells #[.slice cp nc cc] 26)).alloc (.cells #[.int .i64 k] 3)).cell? ⟨W.heap.size,1,none⟩=some (.slice lp nl lc):=by simp[World.cell?,d0]
 have c3:(((W.alloc (.cells #[.slice rp nr rc,.slice lp nl lc,.slice hp nh hc] 25)).alloc (.cells #[.slice cp nc cc] 26)).alloc (.cells #[.int .i64 k] 3)).cell? ⟨W.heap.size,2,none⟩=some (.slice hp nh hc):=by simp[World.cell?,d0]
 clear h he hnr hnl hnh hnc h0 d0 d1;go_enter Tryz.func17,Tryz.ntmps17;go_wp2_with fail;refine(HC.out _ HT.out).mono ?_;rintro e w1 ⟨rfl,t1⟩;have HT1:=zh (HT.out.trans t1);clear t1;go_wp2_with fail
 go_ret2
 exact⟨rfl,HT1.out⟩
theorem oMatters_ok(h:OIn W rs lo hi cs rp lp hp cp rc lc hc cc) (he:ordE rs lo hi cs=0) (hn8:rs.length<=8) (hm12:cs.length<=12) (k:Int) :
  Calls Tryz.prog 17 #[.agg #[.slice rp rs.length rc,.slice lp lo.length lc,.slice hp hi.length hc],.slice cp cs.length cc,.int .i64 k] W fun e w'=>((k < 0\/(cs.length:Int)<=k)->e=.returned (.tuple #[.slice none 0 0,.int .i64 8])) /\
   (∀q:Nat,k=q->q < cs.length->∃p c,e=.returned (.tuple #[.slice p (matTo rs cs lo hi q rs.length).length c,.int .i64 0])/\Grown w' W.heap.size 3 1 intCells (.slice p (matTo rs cs lo hi q rs.length).length c) (matTo rs cs lo hi q rs.length))/\Turned (fun _=>False) W w':=by
 have hO:=ordE_zero he;have HC:=zh (fun A (hA:Turned (fun _=>False) W A)=>oLimits_ok (h.on hA) he hn8 hm12)
 have HIN:=zh h;have HO:=zh hO;have HRL:=zh hn8;have HML:=zh hm12;have hll:=hO.low.len;have hhl:=hO.high.len;obtain⟨t1,ht1⟩ : ∃t,takesR rs cs lo=t:=⟨_,rfl⟩;obtain⟨t2,ht2⟩ : ∃t,takesR rs cs hi=t:=⟨_,rfl⟩;have HTT:=zh (And.intro ht1 ht2);have hl1:t1.length=cs.length:=by rw[<- ht1];exact repL_len _ _
 have hl2:t2.length=cs.length:=by rw[<- ht2];exact repL_len _ _
 obtain⟨n,hnr⟩ : ∃n,rs.length=n:=⟨_,rfl⟩;obtain⟨m,hnc⟩ : ∃n,cs.length=n:=⟨_,rfl⟩;rw[hnr] at hll hhl hn8;rw[hnc] at hl1 hl2 hm12;rw[hnr,hll,hhl,hnc,ht1,ht2] at HC;rw[hnr,hll,hhl,hnc];have HRS:=zh (And.intro hnr (And.intro hnc (And.intro hll (And.intro hhl (And.intro hl1 hl2)))));have hT:=(((zr W).alloc (.cells #[.slice rp n rc,.slice lp n lc,.slice hp n hc] 25)).alloc (.cells #[.slice cp m cc] 26)).alloc (.cells #[.int .i64 k] 3);have d2:=World.alloc_heap_new ((W.alloc (.cells #[.slice rp n rc,.slice lp n lc,.slice hp n hc] 25)).alloc (.cells #[.slice cp m cc] 26)) (.cells #[.int .i64 k] 3);have d1:=keepB ((zr _).alloc (.cells #[.int .i64 k] 3)) (new_second W (.cells #[.slice rp n rc,.slice lp n lc,.slice hp n hc] 25) (.cells #[.slice cp m cc] 26));have d0:=keepB ((zr _).alloc (.cells #[.int .i64 k] 3)) (new_first W (.cells #[.slice rp n rc,.slice lp n lc,.slice hp n hc] 25) (.cells #[.slice cp m cc] 26));have d3:((W.alloc (.cells #[.slice rp n rc,.slice lp n lc,.slice hp n hc] 25)).alloc (.cells #[.slice cp m cc] 26)).heap.size=W.heap.size+1+1:=by simp
 rw[d3] at d2;obtain⟨w0,hw0⟩ : ∃w,w=(((W.alloc (.cells #[.slice rp n rc,.slice lp n lc,.slice hp n hc] 25)).alloc (.cells #[.slice cp m cc] 26)).alloc (.cells #[.int .i64 k] 3)):=⟨_,rfl⟩;rw[<- hw0] at hT d0 d1 d2;have CE:∀A,Turned (fun _=>False) w0 A->(A.cell? ⟨W.heap.size,0,none⟩=some (.slice rp n rc)/\A.cell? ⟨W.heap.size,1,none⟩=some (.slice lp n lc)/\A.cell? ⟨W.heap.size,2,none⟩=some (.slice hp n hc))/\A.cell? ⟨W.heap.size+1,0,none⟩=some (.slice cp m cc)/\A.cell? ⟨W.heap.size+1+1,0,none⟩=some (.int .i64 k):=fun A hA=>by
  have h0:=keepB hA d0;have h1:=keepB hA d1;have h2:=keepB hA d2;exact⟨⟨by simp[World.cell?,h0],by simp[World.cell?,h0],by simp[World.cell?,h0]⟩,by simp[World.cell?,h1],by simp[World.cell?,h2]⟩
 have HCE:=zh CE;have HDD:=zh (And.intro d0 (And.intro d1 d2));have HT:=zh hT;obtain⟨⟨c0,c1,c2⟩,c3,c4⟩:=CE w0 (Turned.refl _ _);rw[hw0] at c0 c1 c2 c3 c4;have hmi:(m:Int)<=12:=by omega
 have hni:(n:Int)<=8:=by omega
 clear h he hO hnr hnc hn8 hm12 hll hhl hl1 hl2 ht1 ht2 hT d0 d1 d2 d3 CE;go_enter Tryz.func17,Tryz.ntmps17;go_wp2_with fail;rw[<- hw0];refine(HC.out _ HT.out).mono ?_;rintro e w1 ⟨ta,tb,rfl,hab,hoa,hob,-,tt⟩;have HT1:=zh tt;have HOA:=zh (And.intro hoa hob);obtain⟨⟨f0,f1,f2⟩,f3,f4⟩:=HCE.out w1 tt;clear hab hoa hob tt hw0 c0 c1 c2 c3 c4 HC;by_cases g1:k < 0
 ·go_wp2_with fail
  go_ret2
  exact⟨fun _=>rfl,fun q hq _=>by omega,HT.out.trans HT1.out⟩
 by_cases g2:(m:Int)<=k
 ·go_wp2_with fail
  go_ret2
  exact⟨fun _=>rfl,fun q hq hq2=>by omega,HT.out.trans HT1.out⟩
 obtain⟨q,rfl⟩ : ∃q:Nat,k=q:=⟨k.toNat,by omega⟩
 have gq:decide ((q:Int) < 0)=false:=decide_eq_false g1;have gm:decide (m<=q)=false:=decide_eq_false (by omega)
 go_wp2_with fail;have HQM:Hid (q < m):=zh (by omega)
 go_loopw [12,36] (fun v i wr=>∃(j:Nat) (p:Option Addr) (c:Nat),j<=n/\i=(.int .i64 j)/\v=.slice p (matTo rs cs lo hi q j).length c/\Hid (Grown wr w1.heap.size 3 1 intCells (.slice p (matTo rs cs lo hi q j).length c) (matTo rs cs lo hi q j)/\Turned (fun _=>False) w1 wr)) (fun _ i _=>n-(intOf i).toNat)
 case atStart=>exact⟨0,none,0,Nat.zero_le _,rfl,rfl,zh ⟨Grown.nil _ _ _ _ _,Turned.refl _ _⟩⟩
 case round =>
  clear f0 f1 f2 f3 f4 gq gm;obtain⟨j,p,c,hj,rfl,rfl,HI⟩:=hrel;by_cases hlt:j < n
  ·have hx:lo[j]? = some (lo[j]'(by rw[HRS.out.2.2.1];exact hlt)):=List.getElem?_eq_getElem _
   obtain⟨⟨xn,xx,xd⟩,hxe⟩ : ∃u,lo[j]'(by rw[HRS.out.2.2.1];exact hlt)=u:=⟨_,rfl⟩
   rw[hxe] at hx;have hy:hi[j]? = some (hi[j]'(by rw[HRS.out.2.2.2.1];exact hlt)):=List.getElem?_eq_getElem _
   obtain⟨⟨yn,yx,yd⟩,hye⟩ : ∃u,hi[j]'(by rw[HRS.out.2.2.2.1];exact hlt)=u:=⟨_,rfl⟩
   rw[hye] at hy;have hsq:t1[q]? = some (t1[q]'(by rw[HRS.out.2.2.2.2.1];exact HQM.out)):=List.getElem?_eq_getElem _
   obtain⟨⟨sn,sx,sd⟩,hse⟩ : ∃u,t1[q]'(by rw[HRS.out.2.2.2.2.1];exact HQM.out)=u:=⟨_,rfl⟩
   rw[hse] at hsq;have hzq:t2[q]? = some (t2[q]'(by rw[HRS.out.2.2.2.2.2];exact HQM.out)):=List.getElem?_eq_getElem _
   obtain⟨⟨zn,zx,zd⟩,hze⟩ : ∃u,t2[q]'(by rw[HRS.out.2.2.2.2.2];exact HQM.out)=u:=⟨_,rfl⟩
   rw[hze] at hzq;have hTW:Turned (fun _=>False) W wr:=HT.out.trans (HT1.out.trans HI.out.2)
   have HTW:=zh hTW;have hin:=HIN.out.on hTW;obtain⟨b,a,hlp,-,e0,e1,e2⟩:=hin.fc.lo.rats hx;obtain⟨b',a',hhp,-,k0,k1,k2⟩:=hin.fc.hi.rats hy;obtain⟨l0,l1,l2⟩:=(HOA.out.1.turned HI.out.2 id).cells hsq;obtain⟨j0,j1,j2⟩:=(HOA.out.2.turned HI.out.2 id).cells hzq;obtain⟨c1,hc1⟩ : ∃b,changeB rs cs hi lo q j=b:=⟨_,rfl⟩;obtain⟨c2,hc2⟩ : ∃b,changeB rs cs lo hi q j=b:=⟨_,rfl⟩;have HCH1:=zh (fun A (hA:Turned (fun _=>False) wr A)=>by
    have hin2:=HIN.out.on (hTW.trans hA);have hK:=fun b o hb=>keepB (HT1.out.trans (HI.out.2.trans hA)) (b:=b) (o:=o) hb
    have h:=oMattersE_any rs hi cs rp hp cp lp hp rc hc cc n lc n hc W.heap.size (W.heap.size+1) (W.heap.size+1+1) j q n m xn zn xx xd zx zd A hin2.fc.riv hin2.fc.hi hin2.cl (hK _ _ HDD.out.1) (hK _ _ HDD.out.2.1) (hK _ _ HDD.out.2.2) HRS.out.1 HRS.out.2.1 HRS.out.2.2.2.1 hlt HQM.out
     (supE_set HO.out.e2 HO.out.e1 (List.mem_of_getElem? hx)) (by have:=HRL.out;rw[HRS.out.1] at this;exact this) (by have:=HML.out;rw[HRS.out.2.1] at this;exact this) hin2.sh (hin2.sl _ (List.mem_of_getElem? hx)) hin2.sc
    rw[show(!sameR ((takesR rs cs (hi.set j ⟨xn,xx,xd⟩)).getD q zeroR) ⟨zn,zx,zd⟩)=c1 by rw[<- hc1];unfold changeB;rw[getD_of hx,HTT.out.2,getD_of hzq]] at h
    exact h)
   have HCH2:=zh (fun A (hA:Turned (fun _=>False) wr A)=>by
    have hin2:=HIN.out.on (hTW.trans hA);have hK:=fun b o hb=>keepB (HT1.out.trans (HI.out.2.trans hA)) (b:=b) (o:=o) hb
    have h:=oMattersE_any rs lo cs rp lp cp lp hp rc lc cc n lc n hc W.heap.size (W.heap.size+1) (W.heap.size+1+1) j q n m yn sn yx yd sx sd A hin2.fc.riv hin2.fc.lo hin2.cl (hK _ _ HDD.out.1) (hK _ _ HDD.out.2.1) (hK _ _ HDD.out.2.2) HRS.out.1 HRS.out.2.1 HRS.out.2.2.1 hlt HQM.out
     (supE_set HO.out.e1 HO.out.e2 (List.mem_of_getElem? hy)) (by have:=HRL.out;rw[HRS.out.1] at this;exact this) (by have:=HML.out;rw[HRS.out.2.1] at this;exact this) hin2.sl (hin2.sh _ (List.mem_of_getElem? hy)) hin2.sc
    rw[show(!sameR ((takesR rs cs (lo.set j ⟨yn,yx,yd⟩)).getD q zeroR) ⟨sn,sx,sd⟩)=c2 by rw[<- hc2];unfold changeB;rw[getD_of hy,HTT.out.1,getD_of hsq]] at h
    exact h)
   rw[hlp] at HCH2;rw[hhp] at HCH1;subst hlp;subst hhp;have HMT:=zh (matTo_succ rs cs lo hi q j);rw[show matB rs cs lo hi q j=(c1 || c2) by unfold matB;rw[hc1,hc2]] at HMT
   have hlen:=matTo_len rs cs lo hi q j;obtain⟨⟨f0,f1,f2⟩,f3,f4⟩:=HCE.out wr (HT1.out.trans HI.out.2);have TD:=(zr wr).drew;have HK0:Hid ((wr.drew.cell? ⟨W.heap.size,1,none⟩=some (.slice (some ⟨b,a,none⟩) n lc)/\wr.drew.cell? ⟨W.heap.size,2,none⟩=some (.slice (some ⟨b',a',none⟩) n hc)/\wr.drew.cell? ⟨W.heap.size+1+1,0,none⟩=some (.int .i64 q))/\(wr.drew.cell? ⟨b,a+j*3,none⟩=some (.bool xn)/\wr.drew.cell? ⟨b,a+j*3+1,none⟩=some (.string xx)/\wr.drew.cell? ⟨b,a+j*3+2,none⟩=some (.string xd))/\(wr.drew.cell? ⟨b',a'+j*3,none⟩=some (.bool yn)/\wr.drew.cell? ⟨b',a'+j*3+1,none⟩=some (.string yx)/\wr.drew.cell? ⟨b',a'+j*3+2,none⟩=some (.string yd))/\(wr.drew.cell? ⟨ta,q*3,none⟩=some (.bool sn)/\wr.drew.cell? ⟨ta,q*3+1,none⟩=some (.string sx)/\wr.drew.cell? ⟨ta,q*3+2,none⟩=some (.string sd))/\(wr.drew.cell? ⟨tb,q*3,none⟩=some (.bool zn)/\wr.drew.cell? ⟨tb,q*3+1,none⟩=some (.string zx)/\wr.drew.cell? ⟨tb,q*3+2,none⟩=some (.string zd))):=zh ⟨⟨cellT TD id f1,cellT TD id f2,cellT TD id f4⟩,⟨cellT TD id e0,cellT TD id e1,cellT TD id e2⟩,⟨cellT TD id k0,cellT TD id k1,cellT TD id k2⟩,⟨cellT TD id l0,cellT TD id l1,cellT TD id l2⟩,cellT TD id j0,cellT TD id j1,cellT TD id j2⟩;have HD:=zh TD;have CS:∀A,Turned (fun _=>False) wr.drew A->((A.cell? ⟨W.heap.size,1,none⟩=some (.slice (some ⟨b,a,none⟩) n lc)/\A.cell? ⟨W.heap.size,2,none⟩=some (.slice (some ⟨b',a',none⟩) n hc)/\A.cell? ⟨W.heap.size+1+1,0,none⟩=some (.int .i64 q))/\(A.cell? ⟨b,a+j*3,none⟩=some (.bool xn)/\A.cell? ⟨b,a+j*3+1,none⟩=some (.string xx)/\A.cell? ⟨b,a+j*3+2,none⟩=some (.string xd))/\(A.cell? ⟨b',a'+j*3,none⟩=some (.bool yn)/\A.cell? ⟨b',a'+j*3+1,none⟩=some (.string yx)/\A.cell? ⟨b',a'+j*3+2,none⟩=some (.string yd))/\(A.cell? ⟨ta,q*3,none⟩=some (.bool sn)/\A.cell? ⟨ta,q*3+1,none⟩=some (.string sx)/\A.cell? ⟨ta,q*3+2,none⟩=some (.string sd))/\(A.cell? ⟨tb,q*3,none⟩=some (.bool zn)/\A.cell? ⟨tb,q*3+1,none⟩=some (.string zx)/\A.cell? ⟨tb,q*3+2,none⟩=some (.string zd))):=fun A hA=>by
    obtain⟨⟨a1,a2,a3⟩,⟨a4,a5,a6⟩,⟨a7,a8,a9⟩,⟨b1,b2,b3⟩,b4,b5,b6⟩:=HK0.out;exact⟨⟨cellT hA id a1,cellT hA id a2,cellT hA id a3⟩,⟨cellT hA id a4,cellT hA id a5,cellT hA id a6⟩,⟨cellT hA id a7,cellT hA id a8,cellT hA id a9⟩,⟨cellT hA id b1,cellT hA id b2,cellT hA id b3⟩,cellT hA id b4,cellT hA id b5,cellT hA id b6⟩
   have HCS:=zh CS;have jj0:(0:Int)<=j:=by omega
   have jj1:(j:Int) < n:=by omega
   have qq0:(0:Int)<=q:=by omega
   have qq1:(q:Int) < m:=by omega
   clear hx hxe hy hye hsq hse hzq hze hin e0 e1 e2 k0 k1 k2 l0 l1 l2 j0 j1 j2 hc1 hc2 f0 f1 f2 f3 f4 TD CS hTW g1 g2;cases c1
   ·go_wp2_with fail
    go_region_held3 (fun V=>(V.cell? ⟨W.heap.size,1,none⟩=some (.slice (some ⟨b,a,none⟩) n lc)/\V.cell? ⟨W.heap.size,2,none⟩=some (.slice (some ⟨b',a',none⟩) n hc)/\V.cell? ⟨W.heap.size+1+1,0,none⟩=some (.int .i64 q))/\(V.cell? ⟨b,a+j*3,none⟩=some (.bool xn)/\V.cell? ⟨b,a+j*3+1,none⟩=some (.string xx)/\V.cell? ⟨b,a+j*3+2,none⟩=some (.string xd))/\(V.cell? ⟨b',a'+j*3,none⟩=some (.bool yn)/\V.cell? ⟨b',a'+j*3+1,none⟩=some (.string yx)/\V.cell? ⟨b',a'+j*3+2,none⟩=some (.string yd))/\(V.cell? ⟨ta,q*3,none⟩=some (.bool sn)/\V.cell? ⟨ta,q*3+1,none⟩=some (.string sx)/\V.cell? ⟨ta,q*3+2,none⟩=some (.string sd))/\(V.cell? ⟨tb,q*3,none⟩=some (.bool zn)/\V.cell? ⟨tb,q*3+1,none⟩=some (.string zx)/\V.cell? ⟨tb,q*3+2,none⟩=some (.string zd)))
     (first | exact HK2.out | exact HK1.out | exact HK0.out | go_keep)
     (first
      | (have hq:=HK1;clear hq;go_at_call 47;refine(HCH2.out _ HU1.out).mono ?_;rintro e w3 ⟨rfl,t3⟩;have HU2:=zh (HU1.out.trans t3);have HK2:Hid _:=zh (HCS.out _ (HV1.out.trans t3));clear t3)
      | (go_at_call 47;refine(HCH1.out _ HD.out).mono ?_;rintro e w2 ⟨rfl,t3⟩;have HU1:=zh (HD.out.trans t3);have HV1:=zh t3;have HK1:Hid _:=zh (HCS.out _ t3);clear t3))
    cases c2
    ·replace HMT:=zh (HMT.out.trans (if_neg (by simp)))
     go_wp2_with fail
     go_roundw
     case rel=>exact⟨j+1,p,c,by omega,by go_num,by rw[HMT.out],zh ⟨by rw[HMT.out];exact HI.out.1.turned HU2.out fun _ h=>h.elim,HI.out.2.trans HU2.out⟩⟩
     case measure=>simp[intOf];omega
    ·replace HMT:=zh (HMT.out.trans (if_pos rfl));have HG:=zh (HI.out.1.turned HU2.out fun _ h=>h.elim)
     have HZ:=zh (Nat.le_trans HI.out.2.size HU2.out.size);go_wp2_with (at_builtin;(refine app_int w3 rfl _ _ rfl w1.heap.size (.slice p (matTo rs cs lo hi q j).length c) (j:Int) (matTo rs cs lo hi q j) rfl rfl HG.out HZ.out (by omega) ?_);intro p' c' w9 ho4 ht4;have HS:=zh (And.intro ho4 ht4);clear ho4 ht4)
     go_roundw
     case rel=>exact⟨j+1,p',c',by omega,by go_num,by rw[HMT.out];simp,zh ⟨by rw[HMT.out];exact HS.out.1,(HI.out.2.trans HU2.out).fresh HS.out.2 fun _=>id⟩⟩
     case measure=>simp[intOf];omega
   ·replace HMT:=zh (HMT.out.trans (if_pos rfl));go_wp2_with fail;refine wp_region_plain (S:=fun V=>(V.cell? ⟨W.heap.size,1,none⟩=some (.slice (some ⟨b,a,none⟩) n lc)/\V.cell? ⟨W.heap.size,2,none⟩=some (.slice (some ⟨b',a',none⟩) n hc)/\V.cell? ⟨W.heap.size+1+1,0,none⟩=some (.int .i64 q))/\(V.cell? ⟨b,a+j*3,none⟩=some (.bool xn)/\V.cell? ⟨b,a+j*3+1,none⟩=some (.string xx)/\V.cell? ⟨b,a+j*3+2,none⟩=some (.string xd))/\(V.cell? ⟨b',a'+j*3,none⟩=some (.bool yn)/\V.cell? ⟨b',a'+j*3+1,none⟩=some (.string yx)/\V.cell? ⟨b',a'+j*3+2,none⟩=some (.string yd))/\(V.cell? ⟨ta,q*3,none⟩=some (.bool sn)/\V.cell? ⟨ta,q*3+1,none⟩=some (.string sx)/\V.cell? ⟨ta,q*3+2,none⟩=some (.string sd))/\(V.cell? ⟨tb,q*3,none⟩=some (.bool zn)/\V.cell? ⟨tb,q*3+1,none⟩=some (.string zx)/\V.cell? ⟨tb,q*3+2,none⟩=some (.string zd))) (by kernel_rfl) ?_
    have hS0:=HK0.out;refine zt 0 (.func (.func 47) #[] #[.pointer (some ⟨W.heap.size,0,none⟩),.pointer (some ⟨W.heap.size+1,0,none⟩),.pointer (some ⟨W.heap.size+1+1,0,none⟩)]) rfl (Or.inl ⟨by kernel_rfl,fun V hV=>?_⟩) hS0 ?_
    ·obtain⟨⟨a1,a2,a3⟩,⟨a4,a5,a6⟩,⟨a7,a8,a9⟩,⟨b1,b2,b3⟩,b4,b5,b6⟩:=hV;go_simp
    refine zt 1 (.pointer (some ⟨W.heap.size,2,none⟩)) rfl (Or.inl ⟨by kernel_rfl,fun V hV=>?_⟩) hS0 ?_
    ·obtain⟨⟨a1,a2,a3⟩,⟨a4,a5,a6⟩,⟨a7,a8,a9⟩,⟨b1,b2,b3⟩,b4,b5,b6⟩:=hV;go_simp
    refine zt 2 (.slice (some ⟨b',a',none⟩) n hc) rfl (Or.inl ⟨by kernel_rfl,fun V hV=>?_⟩) hS0 ?_
    ·obtain⟨⟨a1,a2,a3⟩,⟨a4,a5,a6⟩,⟨a7,a8,a9⟩,⟨b1,b2,b3⟩,b4,b5,b6⟩:=hV;go_simp
    refine zt 3 (.int .i64 j) rfl (Or.inl ⟨by kernel_rfl,fun V hV=>?_⟩) hS0 ?_
    ·obtain⟨⟨a1,a2,a3⟩,⟨a4,a5,a6⟩,⟨a7,a8,a9⟩,⟨b1,b2,b3⟩,b4,b5,b6⟩:=hV;go_simp
    refine zt 4 (.pointer (some ⟨W.heap.size,1,none⟩)) rfl (Or.inl ⟨by kernel_rfl,fun V hV=>?_⟩) hS0 ?_
    ·obtain⟨⟨a1,a2,a3⟩,⟨a4,a5,a6⟩,⟨a7,a8,a9⟩,⟨b1,b2,b3⟩,b4,b5,b6⟩:=hV;go_simp
    refine zt 5 (.slice (some ⟨b,a,none⟩) n lc) rfl (Or.inl ⟨by kernel_rfl,fun V hV=>?_⟩) hS0 ?_
    ·obtain⟨⟨a1,a2,a3⟩,⟨a4,a5,a6⟩,⟨a7,a8,a9⟩,⟨b1,b2,b3⟩,b4,b5,b6⟩:=hV;go_simp
    refine zt 6 (.int .i64 j) rfl (Or.inl ⟨by kernel_rfl,fun V hV=>?_⟩) hS0 ?_
    ·obtain⟨⟨a1,a2,a3⟩,⟨a4,a5,a6⟩,⟨a7,a8,a9⟩,⟨b1,b2,b3⟩,b4,b5,b6⟩:=hV;go_simp
    refine zt 7 (.pointer (some ⟨b,a+j*3,none⟩)) rfl (Or.inl ⟨by kernel_rfl,fun V hV=>?_⟩) hS0 ?_
    ·obtain⟨⟨a1,a2,a3⟩,⟨a4,a5,a6⟩,⟨a7,a8,a9⟩,⟨b1,b2,b3⟩,b4,b5,b6⟩:=hV;go_simp
    refine zt 8 (.agg #[.bool xn,.string xx,.string xd]) rfl (Or.inl ⟨by kernel_rfl,fun V hV=>?_⟩) hS0 ?_
    ·obtain⟨⟨a1,a2,a3⟩,⟨a4,a5,a6⟩,⟨a7,a8,a9⟩,⟨b1,b2,b3⟩,b4,b5,b6⟩:=hV;go_simp
    refine zt 9 (.slice (some ⟨tb,0,none⟩) m m) rfl (Or.inl ⟨by kernel_rfl,fun V hV=>?_⟩) hS0 ?_
    ·obtain⟨⟨a1,a2,a3⟩,⟨a4,a5,a6⟩,⟨a7,a8,a9⟩,⟨b1,b2,b3⟩,b4,b5,b6⟩:=hV;go_simp
    refine zt 10 (.int .i64 q) rfl (Or.inl ⟨by kernel_rfl,fun V hV=>?_⟩) hS0 ?_
    ·obtain⟨⟨a1,a2,a3⟩,⟨a4,a5,a6⟩,⟨a7,a8,a9⟩,⟨b1,b2,b3⟩,b4,b5,b6⟩:=hV;go_simp
    refine zt 11 (.pointer (some ⟨tb,q*3,none⟩)) rfl (Or.inl ⟨by kernel_rfl,fun V hV=>?_⟩) hS0 ?_
    ·obtain⟨⟨a1,a2,a3⟩,⟨a4,a5,a6⟩,⟨a7,a8,a9⟩,⟨b1,b2,b3⟩,b4,b5,b6⟩:=hV;go_simp
    refine zt 12 (.agg #[.bool zn,.string zx,.string zd]) rfl (Or.inl ⟨by kernel_rfl,fun V hV=>?_⟩) hS0 ?_
    ·obtain⟨⟨a1,a2,a3⟩,⟨a4,a5,a6⟩,⟨a7,a8,a9⟩,⟨b1,b2,b3⟩,b4,b5,b6⟩:=hV;go_simp
    simp only[zz0,zz1,zz2,Act.put,zz3,zz4,zz5];refine wpAnyH_ready (rs:=[13]) (by kernel_rfl) (by simp) ?_
    refine .cons (o:=_) rfl (fun K hK=>?_) .nil
    go_simp;refine(HCH1.out _ HD.out).mono ?_;rintro e w2 ⟨rfl,t3⟩;have HU1:=zh (HD.out.trans t3);have hS1:=HCS.out _ t3;refine hK.out _ _ hS1 (fun _=>?_)
    clear hK t3 hS0;refine zt 14 (.bool true) rfl (Or.inl ⟨by kernel_rfl,fun V hV=>?_⟩) hS1 ?_
    ·obtain⟨⟨a1,a2,a3⟩,⟨a4,a5,a6⟩,⟨a7,a8,a9⟩,⟨b1,b2,b3⟩,b4,b5,b6⟩:=hV;go_simp
    simp only[zz0,zz1,zz2,Act.put,zz3,zz4,zz5];refine zt 15 undef rfl (Or.inr ⟨by kernel_rfl,rfl⟩) hS1 ?_
    refine zt 16 undef rfl (Or.inr ⟨by kernel_rfl,rfl⟩) hS1 ?_
    refine zt 17 undef rfl (Or.inr ⟨by kernel_rfl,rfl⟩) hS1 ?_
    refine zt 18 undef rfl (Or.inr ⟨by kernel_rfl,rfl⟩) hS1 ?_
    refine zt 19 undef rfl (Or.inr ⟨by kernel_rfl,rfl⟩) hS1 ?_
    refine zt 20 undef rfl (Or.inr ⟨by kernel_rfl,rfl⟩) hS1 ?_
    refine zt 21 undef rfl (Or.inr ⟨by kernel_rfl,rfl⟩) hS1 ?_
    refine zt 22 undef rfl (Or.inr ⟨by kernel_rfl,rfl⟩) hS1 ?_
    refine zt 23 undef rfl (Or.inr ⟨by kernel_rfl,rfl⟩) hS1 ?_
    refine zt 24 undef rfl (Or.inr ⟨by kernel_rfl,rfl⟩) hS1 ?_
    refine zt 25 undef rfl (Or.inr ⟨by kernel_rfl,rfl⟩) hS1 ?_
    refine zt 26 undef rfl (Or.inr ⟨by kernel_rfl,rfl⟩) hS1 ?_
    refine zt 27 undef rfl (Or.inr ⟨by kernel_rfl,rfl⟩) hS1 ?_
    refine zt 28 undef rfl (Or.inr ⟨by kernel_rfl,rfl⟩) hS1 ?_
    simp only[zz0,zz1,zz2,Act.put,zz3,zz4,zz5];refine zt 29 (.bool true) rfl (Or.inl ⟨by kernel_rfl,fun V hV=>?_⟩) hS1 ?_
    ·obtain⟨⟨a1,a2,a3⟩,⟨a4,a5,a6⟩,⟨a7,a8,a9⟩,⟨b1,b2,b3⟩,b4,b5,b6⟩:=hV;go_simp
    simp only[zz0,zz1,zz2,Act.put,zz3,zz4,zz5];refine wpAnyH_done (by kernel_rfl) ?_ _
    unfold OnlyN;have HG:=zh (HI.out.1.turned HU1.out fun _ h=>h.elim)
    have HZ:=zh (Nat.le_trans HI.out.2.size HU1.out.size);go_wp2_with (at_builtin;(refine app_int w2 rfl _ _ rfl w1.heap.size (.slice p (matTo rs cs lo hi q j).length c) (j:Int) (matTo rs cs lo hi q j) rfl rfl HG.out HZ.out (by omega) ?_);intro p' c' w9 ho4 ht4;have HS:=zh (And.intro ho4 ht4);clear ho4 ht4)
    go_roundw
    case rel=>exact⟨j+1,p',c',by omega,by go_num,by rw[HMT.out];simp,zh ⟨by rw[HMT.out];exact HS.out.1,(HI.out.2.trans HU1.out).fresh HS.out.2 fun _=>id⟩⟩
    case measure=>simp[intOf];omega
  ·obtain rfl:j=n:=by omega
   go_wp2_with fail
   go_ret2
   refine⟨fun hh=>by have:=HQM.out;omega,fun q' hq' _=>?_,HT.out.trans (HT1.out.trans HI.out.2)⟩
   obtain rfl:q=q':=by omega
   exact⟨p,c,rfl,HI.out.1.low (HT.out.trans HT1.out).size⟩
end
end Go.Proofs.YtanhhdndgkhcfaaGreatDoor
