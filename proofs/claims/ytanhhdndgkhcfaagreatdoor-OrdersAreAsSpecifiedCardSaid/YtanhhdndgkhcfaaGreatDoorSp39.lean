/- Part 39 of the proof of lawSpec.card: OrdExE, OrdExW, OrdSaneA. Conditions: those of each theorem. -/
import Derived.Test.YtanhhdndgkhcfaaGreatDoorSp01
import Derived.Test.YtanhhdndgkhcfaaGreatDoorSp31
import Derived.Test.YtanhhdndgkhcfaaGreatDoorSp34
import Derived.Test.YtanhhdndgkhcfaaGreatDoorSp38
set_option maxRecDepth 20000
set_option maxHeartbeats 4000000
namespace Go.Proofs.YtanhhdndgkhcfaaGreatDoor
open Go Go.Proofs Go.RowKit
theorem at_block{α:Type} {W:World} {g s e:Nat} {enc:α->List Value} {l:List α} (henc:∀x,(enc x).length=s) (h:W.heap[g]? = some (.cells (l.flatMap enc).toArray e (0,0))) {N:Nat} (hN:W.heap.size<=N) (hm:l.length<=maxLen):At N W s enc l (some ⟨g,0,none⟩) l.length :=
 ⟨Nat.le_refl _,hm,fun i u hi=>⟨g,0,rfl,by have:=getElem?_lt h;omega,fun j v hj=>by
  have hjs:j < s:=by have:=(List.getElem?_eq_some_iff.1 hj).1;rwa [henc] at this
  obtain⟨hlt,hu⟩:=List.getElem?_eq_some_iff.1 hi;have:=flatMap_at enc s henc l i j hlt hjs;rw[hu,hj] at this;rw[Nat.zero_add];simp only[World.cell?,h];simpa using this⟩⟩
theorem exN_size{n:Nat} (hn:n<=1000):SzR (exN n) 20:=by
 refine SzR.rep (BytesQ.mono (k:=2) ⟨?_,?_⟩ (by decide))
 ·rw[Rat.num_natCast,Int.natAbs_natCast];exact Nat.lt_of_le_of_lt hn (by decide)
 ·rw[Rat.den_natCast];decide
theorem ex_end(w8:World) (mo bA w1 G b C D:Nat) (qC qE:Option Addr) (an bn cn:Bool) (ax ad bx bd cx cd:ByteArray) (hmo:mo<=1000)
  (ha:exN 5=⟨an,ax,ad⟩) (hb:exN 4=⟨bn,bx,bd⟩) (hc:exN 3=⟨cn,cx,cd⟩)
  (hw:w8.heap[w1]? = some (.cells #[.int .i64 1] 3 (0,0)))
  (hA:w8.heap[bA]? = some (.cells #[.int .i64 2,.slice (some ⟨w1,0,none⟩) 1 1,.int .i64 2,.slice (some ⟨w1,0,none⟩) 1 1,(.int .i64 (-1)),.slice none 0 0] 123 (0,0)))
  (hC:Grown w8 b 68 3 ratCells (.slice qC 3 C) (exU 6)) (hE:Grown w8 b 68 3 ratCells (.slice qE 3 D) (exU mo))
  (hG:w8.heap[G]? = some (.cells #[.int .i64 2,.int .i64 1,.bool an,.string ax,.string ad,.int .i64 0,.int .i64 2,.bool bn,.string bx,.string bd,.int .i64 1,.int .i64 2,.bool bn,.string bx,.string bd,.int .i64 0,.int .i64 3,.bool cn,.string cx,.string cd] 75 (0,0))) :
  OIn w8 (exR (some ⟨w1,0,none⟩) (some ⟨w1,0,none⟩) none 1 1 0) (exU 6) (exU mo) exC (some ⟨bA,0,none⟩) qC qE (some ⟨G,0,none⟩) 3 C D 4:=by
 have hU:∀n,n<=1000->∀u∈exU n,SzR u 20:=by
  intro n hn u hu;simp only[exU,List.mem_cons,List.not_mem_nil,or_false] at hu;rcases hu with rfl | rfl | rfl
  ·exact exN_size hn
  ·exact exN_size (by decide)
  ·exact exN_size (by decide)
 have hW:At w8.heap.size w8 1 intCells [1] (some ⟨w1,0,none⟩) 1:=at_block (l:=[(1:Int)]) (enc:=intCells) (fun _=>rfl) hw (Nat.le_refl _) (by decide)
 refine⟨⟨⟨?_,?_⟩,?_,?_⟩,?_,hU 6 (by decide),hU mo hmo,?_⟩
 ·exact at_block (l:=exR (some ⟨w1,0,none⟩) (some ⟨w1,0,none⟩) none 1 1 0) (enc:=reachCells) (fun _=>rfl) hA (Nat.le_refl _) (by simp[exR,maxLen])
 ·intro x hx;simp only[exR,List.mem_cons,List.not_mem_nil,or_false] at hx;rcases hx with rfl | rfl | rfl
  ·exact hW
  ·exact hW
  ·exact At.nil _ _ _ _
 ·exact Grown.at_ (l:=exU 6) hC (fun _=>rfl) (Nat.le_refl _)
 ·exact Grown.at_ (l:=exU mo) hE (fun _=>rfl) (Nat.le_refl _)
 ·refine at_block (l:=exC) (enc:=claimCells) (fun _=>rfl) (e:=75) ?_ (Nat.le_refl _) (by simp[exC,maxLen])
  rw[hG];simp only[exC,List.flatMap_cons,List.flatMap_nil,claimCells,ha,hb,hc,List.cons_append,List.nil_append,List.append_nil]
 ·intro c hcc;simp only[exC,List.mem_cons,List.not_mem_nil,or_false] at hcc;rcases hcc with rfl | rfl | rfl | rfl <;> exact exN_size (by decide)
attribute [local go_sem] Oper.semAt_some
attribute [local go_sem ↓] run_eql_rat' run_neq_rat'
theorem results_ex(tmps:Array Value) (w:World) (g:Nat) (a b c v:Value) (hp:tmps.getD 2 undef=.pointer (some ⟨g,0,none⟩)) (hv:tmps.getD 3 undef=v) (hg:w.heap[g]? = some (.cells #[a,b,c] 25 (0,0))) :
  (results Tryz.f37 tmps).run Tryz.prog w=.ok (.tuple #[.agg #[a,b,c],v]) w:=by
 have hp':tmps[2]?.getD undef=.pointer (some ⟨g,0,none⟩):=by simpa using hp
 have hv':tmps[3]?.getD undef=v:=by simpa using hv
 have hl:(loadVar 25 ⟨g,0,none⟩).run Tryz.prog w=.ok (.agg #[a,b,c]) w:=by
  have:=Tryz.underlying25;obtain⟨h0,h1,h2,-,-,-⟩:=box3 hg;go_simp
 simp[results,hp',hv',asAddr,hl]
theorem lawExample_any(mo:Nat) (W:World) (hmo:mo<=1000):Calls Tryz.prog 37 #[.int .i64 mo] W fun e w'=>∃(rp lp hp cp:Option Addr) (rc lc hc cc:Nat) (w1:Nat),
  e=.returned (.tuple #[.agg #[.slice rp 3 rc,.slice lp 3 lc,.slice hp 3 hc],.slice cp 4 cc]) /\
  OIn w' (exR (some ⟨w1,0,none⟩) (some ⟨w1,0,none⟩) none 1 1 0) (exU 6) (exU mo) exC rp lp hp cp rc lc hc cc/\Turned (fun _=>False) W w':=by
 have T3:=(((zr W).alloc (.cells #[.slice none 0 0,.slice none 0 0,.slice none 0 0] 25)).alloc (.cells #[.int .i64 1] 3)).alloc (.cells #[.slice (some ⟨W.heap.size+1,0,none⟩) 1 1] 121);have n2:=World.alloc_heap_new ((W.alloc (.cells #[.slice none 0 0,.slice none 0 0,.slice none 0 0] 25)).alloc (.cells #[.int .i64 1] 3)) (.cells #[.slice (some ⟨W.heap.size+1,0,none⟩) 1 1] 121);have n1:=keepB ((zr _).alloc (.cells #[.slice (some ⟨W.heap.size+1,0,none⟩) 1 1] 121)) (new_second W (.cells #[.slice none 0 0,.slice none 0 0,.slice none 0 0] 25) (.cells #[.int .i64 1] 3));have n0:=keepB ((zr _).alloc (.cells #[.slice (some ⟨W.heap.size+1,0,none⟩) 1 1] 121)) (new_first W (.cells #[.slice none 0 0,.slice none 0 0,.slice none 0 0] 25) (.cells #[.int .i64 1] 3));have n3:((W.alloc (.cells #[.slice none 0 0,.slice none 0 0,.slice none 0 0] 25)).alloc (.cells #[.int .i64 1] 3)).heap.size=W.heap.size+1+1:=by simp
 rw[n3] at n2;go_enter Tryz.func37,Tryz.ntmps37;go_wp2_with fail;obtain⟨w0,hw0⟩ : ∃w,w=((W.alloc (.cells #[.slice none 0 0,.slice none 0 0,.slice none 0 0] 25)).alloc (.cells #[.int .i64 1] 3)).alloc (.cells #[.slice (some ⟨W.heap.size+1,0,none⟩) 1 1] 121):=⟨_,rfl⟩;rw[<- hw0] at T3 n0 n1 n2 ⊢;have HB:=zh (And.intro n0 (And.intro n1 (And.intro n2 T3)));clear hw0 n0 n1 n2 n3 T3;refine wp_region_plain (S:=fun V=>V.cell? ⟨W.heap.size+1+1,0,none⟩=some (.slice (some ⟨W.heap.size+1,0,none⟩) 1 1)) (by kernel_rfl) ?_
 have hS0:w0.drew.cell? ⟨W.heap.size+1+1,0,none⟩=some (.slice (some ⟨W.heap.size+1,0,none⟩) 1 1):=cellT (zr w0).drew id (cell_of_box HB.out.2.2.1);refine zt 0 (.agg #[.slice (some ⟨W.heap.size+1,0,none⟩) 1 1]) rfl (Or.inl ⟨by kernel_rfl,fun V hV=>?_⟩) hS0 ?_
 ·have h1:=hV;go_simp
 refine zt 1 (.agg #[.int .i64 2,.slice (some ⟨W.heap.size+1,0,none⟩) 1 1]) rfl (Or.inl ⟨by kernel_rfl,fun V hV=>?_⟩) hS0 ?_
 ·have h1:=hV;go_simp
 refine zt 2 (.agg #[.slice (some ⟨W.heap.size+1,0,none⟩) 1 1]) rfl (Or.inl ⟨by kernel_rfl,fun V hV=>?_⟩) hS0 ?_
 ·have h1:=hV;go_simp
 refine zt 3 (.agg #[.int .i64 2,.slice (some ⟨W.heap.size+1,0,none⟩) 1 1]) rfl (Or.inl ⟨by kernel_rfl,fun V hV=>?_⟩) hS0 ?_
 ·have h1:=hV;go_simp
 refine zt 4 (.agg #[(.int .i64 (-1)),.slice none 0 0]) rfl (Or.inl ⟨by kernel_rfl,fun V hV=>?_⟩) hS0 ?_
 ·have h1:=hV;go_simp
 refine zt 8 (.int .i64 mo) rfl (Or.inl ⟨by kernel_rfl,fun V hV=>?_⟩) hS0 ?_
 ·have h1:=hV;go_simp
 simp only[zz0,zz1,zz2,Act.put,zz3,zz4,zz5];refine ex_region mo W.heap.size (W.heap.size+1+1) (W.heap.size+1) w0.drew hmo _ (getElem?_lt (keepB (zr w0).drew HB.out.2.2.1)) ?_ w0.drew hS0 (zh (Turned.refl _ _));intro bA bB qC dC bD qE dE bF w2 HH;have HT2:Hid (Turned (fun _=>False) w0 w2):=zh ((zr w0).drew.trans HH.out.1)
 obtain⟨⟨an,ax,ad⟩,ha⟩ : ∃v,exN 5=v:=⟨_,rfl⟩;obtain⟨⟨bn,bx,bd⟩,hb⟩ : ∃v,exN 4=v:=⟨_,rfl⟩;obtain⟨⟨cn,cx,cd⟩,hc⟩ : ∃v,exN 3=v:=⟨_,rfl⟩;have H5:=zh (fun W=>qInt_any 5 W (by decide))
 have H4:=zh (fun W=>qInt_any 4 W (by decide))
 have H3:=zh (fun W=>qInt_any 3 W (by decide))
 rw[show repR ((5:Nat):Rat)=⟨an,ax,ad⟩ from ha] at H5;rw[show repR ((4:Nat):Rat)=⟨bn,bx,bd⟩ from hb] at H4;rw[show repR ((3:Nat):Rat)=⟨cn,cx,cd⟩ from hc] at H3;have HV:=zh (And.intro ha (And.intro hb hc));obtain⟨f0,f1,f2,-,-,-⟩:=box3 HH.out.2.2.2.2;clear hS0 ha hb hc;go_wp2_with fail;have hS0:w2.drew.cell? ⟨bF,0,none⟩=some (.slice (some ⟨bA,0,none⟩) 3 3)/\w2.drew.cell? ⟨bF,1,none⟩=some (.slice qC 3 dC)/\w2.drew.cell? ⟨bF,2,none⟩=some (.slice qE 3 dE):=⟨cellT (zr w2).drew id f0,cellT (zr w2).drew id f1,cellT (zr w2).drew id f2⟩;have HD:=zh ((zr w2).drew);clear f0 f1 f2;refine wp_region_plain (S:=fun V=>V.cell? ⟨bF,0,none⟩=some (.slice (some ⟨bA,0,none⟩) 3 3)/\V.cell? ⟨bF,1,none⟩=some (.slice qC 3 dC)/\V.cell? ⟨bF,2,none⟩=some (.slice qE 3 dE)) (by kernel_rfl) ?_
 refine zt 0 (.agg #[.slice (some ⟨bA,0,none⟩) 3 3,.slice qC 3 dC,.slice qE 3 dE]) rfl (Or.inl ⟨by kernel_rfl,fun V hV=>?_⟩) hS0 ?_
 ·obtain⟨a0,a1,a2⟩:=hV;go_simp
 simp only[zz0,zz1,Act.put,zz3,zz4,zz5];refine wpAnyH_ready (rs:=[1]) (by kernel_rfl) (by simp) ?_
 refine .cons (o:=_) rfl (fun K hK=>?_) .nil
 go_simp;refine(H5.out _).mono ?_;rintro e w3 ⟨rfl,t3⟩;have hT1:=zh (HD.out.trans t3);have hS1:w3.cell? ⟨bF,0,none⟩=some (.slice (some ⟨bA,0,none⟩) 3 3)/\w3.cell? ⟨bF,1,none⟩=some (.slice qC 3 dC)/\w3.cell? ⟨bF,2,none⟩=some (.slice qE 3 dE):=⟨cellT t3 id hS0.1,cellT t3 id hS0.2.1,cellT t3 id hS0.2.2⟩;refine hK.out _ _ hS1 (fun _=>?_)
 clear hK t3 hS0;refine zt 2 (.agg #[.int .i64 2,.int .i64 1,.bool an,.string ax,.string ad]) rfl (Or.inl ⟨by kernel_rfl,fun V hV=>?_⟩) hS1 ?_
 ·obtain⟨a0,a1,a2⟩:=hV;go_simp
 simp only[zz0,zz1,zz2,Act.put,zz3,zz4,zz5];refine wpAnyH_ready (rs:=[3]) (by kernel_rfl) (by simp) ?_
 refine .cons (o:=_) rfl (fun K hK=>?_) .nil
 go_simp;refine(H4.out _).mono ?_;rintro e w4 ⟨rfl,t3⟩;have hT2:=zh (hT1.out.trans t3);have hS2:w4.cell? ⟨bF,0,none⟩=some (.slice (some ⟨bA,0,none⟩) 3 3)/\w4.cell? ⟨bF,1,none⟩=some (.slice qC 3 dC)/\w4.cell? ⟨bF,2,none⟩=some (.slice qE 3 dE):=⟨cellT t3 id hS1.1,cellT t3 id hS1.2.1,cellT t3 id hS1.2.2⟩;refine hK.out _ _ hS2 (fun _=>?_)
 clear hK t3 hS1;refine zt 4 (.agg #[.int .i64 0,.int .i64 2,.bool bn,.string bx,.string bd]) rfl (Or.inl ⟨by kernel_rfl,fun V hV=>?_⟩) hS2 ?_
 ·obtain⟨a0,a1,a2⟩:=hV;go_simp
 simp only[zz0,zz1,zz2,Act.put,zz3,zz4,zz5];refine wpAnyH_ready (rs:=[5]) (by kernel_rfl) (by simp) ?_
 refine .cons (o:=_) rfl (fun K hK=>?_) .nil
 go_simp;refine(H4.out _).mono ?_;rintro e w5 ⟨rfl,t3⟩;have hT3:=zh (hT2.out.trans t3);have hS3:w5.cell? ⟨bF,0,none⟩=some (.slice (some ⟨bA,0,none⟩) 3 3)/\w5.cell? ⟨bF,1,none⟩=some (.slice qC 3 dC)/\w5.cell? ⟨bF,2,none⟩=some (.slice qE 3 dE):=⟨cellT t3 id hS2.1,cellT t3 id hS2.2.1,cellT t3 id hS2.2.2⟩;refine hK.out _ _ hS3 (fun _=>?_)
 clear hK t3 hS2;refine zt 6 (.agg #[.int .i64 1,.int .i64 2,.bool bn,.string bx,.string bd]) rfl (Or.inl ⟨by kernel_rfl,fun V hV=>?_⟩) hS3 ?_
 ·obtain⟨a0,a1,a2⟩:=hV;go_simp
 simp only[zz0,zz1,zz2,Act.put,zz3,zz4,zz5];refine wpAnyH_ready (rs:=[7]) (by kernel_rfl) (by simp) ?_
 refine .cons (o:=_) rfl (fun K hK=>?_) .nil
 go_simp;refine(H3.out _).mono ?_;rintro e w6 ⟨rfl,t3⟩;have hT4:=zh (hT3.out.trans t3);have hS4:w6.cell? ⟨bF,0,none⟩=some (.slice (some ⟨bA,0,none⟩) 3 3)/\w6.cell? ⟨bF,1,none⟩=some (.slice qC 3 dC)/\w6.cell? ⟨bF,2,none⟩=some (.slice qE 3 dE):=⟨cellT t3 id hS3.1,cellT t3 id hS3.2.1,cellT t3 id hS3.2.2⟩;refine hK.out _ _ hS4 (fun _=>?_)
 clear hK t3 hS3;refine zt 8 (.agg #[.int .i64 0,.int .i64 3,.bool cn,.string cx,.string cd]) rfl (Or.inl ⟨by kernel_rfl,fun V hV=>?_⟩) hS4 ?_
 ·obtain⟨a0,a1,a2⟩:=hV;go_simp
 simp only[zz0,zz1,zz2,Act.put,zz3,zz4,zz5];have hne:¬bF=W.heap.size:=by
  intro he;have h1:=HH.out.2.2.2.2;rw[he,keepB HT2.out HB.out.1] at h1;simp at h1
 have hTW2:Turned (fun _=>False) W w2:=HB.out.2.2.2.trans HT2.out
 have FIN:∀(G:Nat) (w8:World),Turned (fun k=>k=W.heap.size) w6 w8->w8.heap[W.heap.size]? = some (.cells #[.slice (some ⟨bA,0,none⟩) 3 3,.slice qC 3 dC,.slice qE 3 dE] 25 (0,0)) ->
   w8.heap[G]? = some (.cells #[.int .i64 2,.int .i64 1,.bool an,.string ax,.string ad,.int .i64 0,.int .i64 2,.bool bn,.string bx,.string bd,.int .i64 1,.int .i64 2,.bool bn,.string bx,.string bd,.int .i64 0,.int .i64 3,.bool cn,.string cx,.string cd] 75 (0,0)) ->
   ∃(rp lp hp cp:Option Addr) (rc lc hc cc:Nat) (w1:Nat),
    Ending.returned (.tuple #[.agg #[.slice (some ⟨bA,0,none⟩) 3 3,.slice qC 3 dC,.slice qE 3 dE],.slice (some ⟨G,0,none⟩) 4 4])=.returned (.tuple #[.agg #[.slice rp 3 rc,.slice lp 3 lc,.slice hp 3 hc],.slice cp 4 cc]) /\
    OIn w8 (exR (some ⟨w1,0,none⟩) (some ⟨w1,0,none⟩) none 1 1 0) (exU 6) (exU mo) exC rp lp hp cp rc lc hc cc/\Turned (fun _=>False) W w8:=by
  intro G w8 ht hf hg;have t28:Turned (fun k=>k=W.heap.size) w2 w8:=(hT4.out.mono (fun _ h=>h.elim)).trans ht
  have hlt:W.heap.size < w0.drew.heap.size:=getElem?_lt (keepB (zr w0).drew HB.out.1);have hA:=HH.out.2.1;have hneA:¬bA=W.heap.size:=by have:=hA.1;omega
  have hA8:=(t28.block bA (getElem?_lt hA.2) hneA).trans hA.2;have hw1:w2.heap[W.heap.size+1]? = some (.cells #[.int .i64 1] 3 (0,0)):=keepB HT2.out HB.out.2.1;have hw8:=(t28.block (W.heap.size+1) (getElem?_lt hw1) (by omega)).trans hw1
  have hC8:=HH.out.2.2.1.turned t28 (fun k hk=>by omega)
  have hE8:=HH.out.2.2.2.1.turned t28 (fun k hk=>by omega)
  refine⟨_,_,_,_,_,_,_,_,_,rfl,ex_end w8 mo bA (W.heap.size+1) G _ dC dE qC qE an bn cn ax ad bx bd cx cd hmo HV.out.1 HV.out.2.1 HV.out.2.2 hw8 hA8 hC8 hE8 hg,?_⟩;exact Turned.freshC hTW2 t28 (fun g hg=>by omega)
 have HFIN:=zh FIN;have hr6:=keepB (HT2.out.trans hT4.out) HB.out.1;clear FIN hTW2;refine wpAnyH_ready (rs:=[9,10]) (by kernel_rfl) (by simp) ?_
 refine .cons (o:=_) rfl (fun K hK=>?_) (.cons (o:=_) rfl (fun K hK=>?_) .nil)
 ·go_simp;have TA:=(zr w6).alloc (.cells #[.int .i64 2,.int .i64 1,.bool an,.string ax,.string ad,.int .i64 0,.int .i64 2,.bool bn,.string bx,.string bd,.int .i64 1,.int .i64 2,.bool bn,.string bx,.string bd,.int .i64 0,.int .i64 3,.bool cn,.string cx,.string cd] 75);have z1:=World.alloc_heap_new w6 (.cells #[.int .i64 2,.int .i64 1,.bool an,.string ax,.string ad,.int .i64 0,.int .i64 2,.bool bn,.string bx,.string bd,.int .i64 1,.int .i64 2,.bool bn,.string bx,.string bd,.int .i64 0,.int .i64 3,.bool cn,.string cx,.string cd] 75);obtain⟨G,hG⟩ : ∃G,w6.heap.size=G:=⟨_,rfl⟩;obtain⟨w7,hw⟩ : ∃w,w=w6.alloc (.cells #[.int .i64 2,.int .i64 1,.bool an,.string ax,.string ad,.int .i64 0,.int .i64 2,.bool bn,.string bx,.string bd,.int .i64 1,.int .i64 2,.bool bn,.string bx,.string bd,.int .i64 0,.int .i64 3,.bool cn,.string cx,.string cd] 75):=⟨_,rfl⟩;rw[<- hw] at TA z1 ⊢;rw[hG] at z1 ⊢;have hS7:w7.cell? ⟨bF,0,none⟩=some (.slice (some ⟨bA,0,none⟩) 3 3)/\w7.cell? ⟨bF,1,none⟩=some (.slice qC 3 dC)/\w7.cell? ⟨bF,2,none⟩=some (.slice qE 3 dE):=⟨cellT TA id hS4.1,cellT TA id hS4.2.1,cellT TA id hS4.2.2⟩;have hr0:=keepB TA hr6;have hst:=set3 hr0 (.slice (some ⟨bA,0,none⟩) 3 3) (.slice qC 3 dC) (.slice qE 3 dE);have hGn:¬G=W.heap.size:=by have:=getElem?_lt hr6;omega
  have HF:=zh (And.intro hst.1 (And.intro ((hst.2.block G (getElem?_lt z1) hGn).trans z1) ((TA.mono (fun _ h=>h.elim)).trans hst.2)))
  have hS9:(((w7.setCell ⟨W.heap.size,0,none⟩ (.slice (some ⟨bA,0,none⟩) 3 3)).setCell ⟨W.heap.size,1,none⟩ (.slice qC 3 dC)).setCell ⟨W.heap.size,2,none⟩ (.slice qE 3 dE)).cell? ⟨bF,0,none⟩=some (.slice (some ⟨bA,0,none⟩) 3 3)/\(((w7.setCell ⟨W.heap.size,0,none⟩ (.slice (some ⟨bA,0,none⟩) 3 3)).setCell ⟨W.heap.size,1,none⟩ (.slice qC 3 dC)).setCell ⟨W.heap.size,2,none⟩ (.slice qE 3 dE)).cell? ⟨bF,1,none⟩=some (.slice qC 3 dC)/\(((w7.setCell ⟨W.heap.size,0,none⟩ (.slice (some ⟨bA,0,none⟩) 3 3)).setCell ⟨W.heap.size,1,none⟩ (.slice qC 3 dC)).setCell ⟨W.heap.size,2,none⟩ (.slice qE 3 dE)).cell? ⟨bF,2,none⟩=some (.slice qE 3 dE):=⟨cellT hst.2 hne hS7.1,cellT hst.2 hne hS7.2.1,cellT hst.2 hne hS7.2.2⟩;obtain⟨d0,d1,d2,d3,d4,d5⟩:=box3 hr0;clear hw hG TA z1 hst hr0 hGn;refine hK.out _ _ hS7 (fun _=>?_)
  clear hK hS4 hS7 hr6;refine wpAnyH_ready (rs:=[10]) (by kernel_rfl) (by simp) ?_
  refine .cons (o:=_) rfl (fun K hK=>?_) .nil
  go_simp;refine hK.out _ _ hS9 (fun _=>?_)
  clear hK d0 d1 d2 d3 d4 d5;refine zt 11 (.slice (some ⟨G,0,none⟩) 4 4) rfl (Or.inl ⟨by kernel_rfl,fun V hV=>?_⟩) hS9 ?_
  ·obtain⟨a0,a1,a2⟩:=hV;go_simp
  simp only[zz0,zz1,zz2,Act.put,zz3,zz4,zz5];refine wpAnyH_done (by kernel_rfl) ?_ _
  unfold OnlyN;clear hS9;go_wp2_with fail;exact bodyPost_ret (results_ex _ _ W.heap.size _ _ _ _ rfl rfl HF.out.1) rfl (HFIN.out G _ HF.out.2.2 HF.out.1 HF.out.2.1)
 ·obtain⟨d0,d1,d2,d3,d4,d5⟩:=box3 hr6;go_simp;have hst:=set3 hr6 (.slice (some ⟨bA,0,none⟩) 3 3) (.slice qC 3 dC) (.slice qE 3 dE);have hS7:(((w6.setCell ⟨W.heap.size,0,none⟩ (.slice (some ⟨bA,0,none⟩) 3 3)).setCell ⟨W.heap.size,1,none⟩ (.slice qC 3 dC)).setCell ⟨W.heap.size,2,none⟩ (.slice qE 3 dE)).cell? ⟨bF,0,none⟩=some (.slice (some ⟨bA,0,none⟩) 3 3)/\(((w6.setCell ⟨W.heap.size,0,none⟩ (.slice (some ⟨bA,0,none⟩) 3 3)).setCell ⟨W.heap.size,1,none⟩ (.slice qC 3 dC)).setCell ⟨W.heap.size,2,none⟩ (.slice qE 3 dE)).cell? ⟨bF,1,none⟩=some (.slice qC 3 dC)/\(((w6.setCell ⟨W.heap.size,0,none⟩ (.slice (some ⟨bA,0,none⟩) 3 3)).setCell ⟨W.heap.size,1,none⟩ (.slice qC 3 dC)).setCell ⟨W.heap.size,2,none⟩ (.slice qE 3 dE)).cell? ⟨bF,2,none⟩=some (.slice qE 3 dE):=⟨cellT hst.2 hne hS4.1,cellT hst.2 hne hS4.2.1,cellT hst.2 hne hS4.2.2⟩;refine hK.out _ _ hS7 (fun _=>?_)
  clear hK hS4 hr6 d0 d1 d2 d3 d4 d5;obtain⟨w7,hw7⟩ : ∃w,w=(((w6.setCell ⟨W.heap.size,0,none⟩ (.slice (some ⟨bA,0,none⟩) 3 3)).setCell ⟨W.heap.size,1,none⟩ (.slice qC 3 dC)).setCell ⟨W.heap.size,2,none⟩ (.slice qE 3 dE)):=⟨_,rfl⟩;rw[<- hw7] at hst hS7 ⊢;clear hw7;refine wpAnyH_ready (rs:=[9]) (by kernel_rfl) (by simp) ?_
  refine .cons (o:=_) rfl (fun K hK=>?_) .nil
  go_simp;have TA:=(zr w7).alloc (.cells #[.int .i64 2,.int .i64 1,.bool an,.string ax,.string ad,.int .i64 0,.int .i64 2,.bool bn,.string bx,.string bd,.int .i64 1,.int .i64 2,.bool bn,.string bx,.string bd,.int .i64 0,.int .i64 3,.bool cn,.string cx,.string cd] 75);have z1:=World.alloc_heap_new w7 (.cells #[.int .i64 2,.int .i64 1,.bool an,.string ax,.string ad,.int .i64 0,.int .i64 2,.bool bn,.string bx,.string bd,.int .i64 1,.int .i64 2,.bool bn,.string bx,.string bd,.int .i64 0,.int .i64 3,.bool cn,.string cx,.string cd] 75);obtain⟨G,hG⟩ : ∃G,w7.heap.size=G:=⟨_,rfl⟩;obtain⟨w8,hw⟩ : ∃w,w=w7.alloc (.cells #[.int .i64 2,.int .i64 1,.bool an,.string ax,.string ad,.int .i64 0,.int .i64 2,.bool bn,.string bx,.string bd,.int .i64 1,.int .i64 2,.bool bn,.string bx,.string bd,.int .i64 0,.int .i64 3,.bool cn,.string cx,.string cd] 75):=⟨_,rfl⟩;rw[<- hw] at TA z1 ⊢;rw[hG] at z1 ⊢;have hS9:w8.cell? ⟨bF,0,none⟩=some (.slice (some ⟨bA,0,none⟩) 3 3)/\w8.cell? ⟨bF,1,none⟩=some (.slice qC 3 dC)/\w8.cell? ⟨bF,2,none⟩=some (.slice qE 3 dE):=⟨cellT TA id hS7.1,cellT TA id hS7.2.1,cellT TA id hS7.2.2⟩;have HF:=zh (And.intro (keepB TA hst.1) (And.intro z1 (hst.2.trans (TA.mono (fun _ h=>h.elim)))))
  clear hw hG TA z1 hst;refine hK.out _ _ hS9 (fun _=>?_)
  clear hK hS7;refine zt 11 (.slice (some ⟨G,0,none⟩) 4 4) rfl (Or.inl ⟨by kernel_rfl,fun V hV=>?_⟩) hS9 ?_
  ·obtain⟨a0,a1,a2⟩:=hV;go_simp
  simp only[zz0,zz1,zz2,Act.put,zz3,zz4,zz5];refine wpAnyH_done (by kernel_rfl) ?_ _
  unfold OnlyN;clear hS9;go_wp2_with fail;exact bodyPost_ret (results_ex _ _ W.heap.size _ _ _ _ rfl rfl HF.out.1) rfl (HFIN.out G _ HF.out.2.2 HF.out.1 HF.out.2.1)
def exO:List Or:=[⟨2,exN 2⟩,⟨3,exN 2⟩]
def exO7:List Or:=[⟨1,exN 3⟩,⟨3,exN 0⟩]
structure ExAt (W:World) (mo:Nat) (rp lp hp cp:Option Addr) (rc lc hc cc w1:Nat):Prop where
 h:OIn W (exR (some ⟨w1,0,none⟩) (some ⟨w1,0,none⟩) none 1 1 0) (exU 6) (exU mo) exC rp lp hp cp rc lc hc cc
section
variable {W W':World} {mo:Nat} {rp lp hp cp:Option Addr} {rc lc hc cc w1:Nat}
theorem ExAt.on(h:ExAt W mo rp lp hp cp rc lc hc cc w1) (ht:Turned (fun _=>False) W W'):ExAt W' mo rp lp hp cp rc lc hc cc w1:=⟨h.h.on ht⟩
theorem ex_ord(w1 w2 w3:Option Addr) (c1 c2 c3 n:Nat) (hn:n=7\/n=10):ordE (exR w1 w2 w3 c1 c2 c3) (exU 6) (exU n) exC=0:=by
 rcases hn with rfl | rfl <;> kernel_rfl
theorem exLimits(h:ExAt W 10 rp lp hp cp rc lc hc cc w1) :
  Calls Tryz.prog 9 #[.agg #[.slice rp 3 rc,.slice lp 3 lc,.slice hp 3 hc],.slice cp 4 cc] W fun e w'=>∃a b,e=.returned (.tuple #[.slice (some ⟨a,0,none⟩) 4 4,.slice (some ⟨b,0,none⟩) 4 4,.int .i64 0]) /\
   At w'.heap.size w' 3 ratCells [exN 5,exN 2,exN 2,exN 0] (some ⟨a,0,none⟩) 4/\At w'.heap.size w' 3 ratCells [exN 5,exN 4,exN 2,exN 2] (some ⟨b,0,none⟩) 4/\Turned (fun _=>False) W w':=by
 have H:=oLimits_ok h.h (ex_ord _ _ _ _ _ _ _ (Or.inr rfl)) (show 3<=8 by decide) (by decide)
 rw[ex6,ex10] at H;refine H.mono ?_;rintro e w' ⟨a,b,rfl,-,h1,h2,-,ht⟩;exact⟨a,b,rfl,h1.at_ h1.lt (by decide),h2.at_ h2.lt (by decide),ht⟩
theorem exOrders(h:ExAt W 10 rp lp hp cp rc lc hc cc w1) :
  Calls Tryz.prog 11 #[.agg #[.slice rp 3 rc,.slice lp 3 lc,.slice hp 3 hc],.slice cp 4 cc] W fun e w'=>∃p c,e=.returned (.tuple #[.slice p 2 c,.int .i64 0])/\At w'.heap.size w' 4 orderCells exO p c/\(∀o∈exO,SzR o.limit 24000300)/\Turned (fun _=>False) W w':=by
 have H:=oOrders_ok h.h (ex_ord _ _ _ _ _ _ _ (Or.inr rfl)) (show 3<=8 by decide) (by decide)
 rw[ex10,show ordersL exC [exN 5,exN 4,exN 2,exN 2]=exO by kernel_rfl] at H
 refine H.mono ?_;rintro e w' ⟨p,c,rfl,h1,h2,ht⟩;exact⟨p,c,rfl,h1.at_ (fun _=>rfl) (Nat.le_refl _),h2,ht⟩
theorem exSure(h:ExAt W 10 rp lp hp cp rc lc hc cc w1) :
  Calls Tryz.prog 13 #[.agg #[.slice rp 3 rc,.slice lp 3 lc,.slice hp 3 hc],.slice cp 4 cc] W fun e w'=>∃p c,e=.returned (.tuple #[.slice p 1 c,.int .i64 0])/\At w'.heap.size w' 1 intCells [0] p c/\Turned (fun _=>False) W w':=by
 have H:=oSure_ok h.h (ex_ord _ _ _ _ _ _ _ (Or.inr rfl)) (show 3<=8 by decide) (by decide)
 rw[ex6,show sureL exC [exN 5,exN 2,exN 2,exN 0]=[0] by kernel_rfl] at H
 refine H.mono ?_;rintro e w' ⟨p,c,rfl,h1,ht⟩;exact⟨p,c,rfl,h1.at_ (fun _=>rfl) (Nat.le_refl _),ht⟩
theorem exRenew(h:ExAt W 7 rp lp hp cp rc lc hc cc w1) (po:Option Addr) (co:Nat) (ho:At W.heap.size W 4 orderCells exO po co) (so:∀o∈exO,SzR o.limit 24000300) :
  Calls Tryz.prog 15 #[.agg #[.slice rp 3 rc,.slice lp 3 lc,.slice hp 3 hc],.slice cp 4 cc,.slice po 2 co] W fun e w'=>∃p c,e=.returned (.tuple #[.slice p 2 c,.int .i64 0])/\At w'.heap.size w' 4 orderCells exO7 p c/\Turned (fun _=>False) W w':=by
 have H:=oRenew_ok h.h (ex_ord _ _ _ _ _ _ _ (Or.inl rfl)) (show 3<=8 by decide) (by decide) exO po co ho so (by rw[ex7];kernel_rfl) (by decide)
 rw[ex7,show renewL exO (ordersL exC [exN 5,exN 3,exN 2,exN 0])=exO7 by kernel_rfl] at H
 refine H.mono ?_;rintro e w' ⟨p,c,rfl,h1,ht⟩;exact⟨p,c,rfl,h1.at_ (fun _=>rfl) (Nat.le_refl _),ht⟩
theorem exMatters(h:ExAt W 10 rp lp hp cp rc lc hc cc w1) {q:Nat} (hq:q < 4) {l:List Int} (hl:matTo (exR (some ⟨w1,0,none⟩) (some ⟨w1,0,none⟩) none 1 1 0) exC (exU 6) (exU 10) q 3=l) :
  Calls Tryz.prog 17 #[.agg #[.slice rp 3 rc,.slice lp 3 lc,.slice hp 3 hc],.slice cp 4 cc,.int .i64 q] W fun e w'=>∃p c,e=.returned (.tuple #[.slice p l.length c,.int .i64 0])/\At w'.heap.size w' 1 intCells l p c/\Turned (fun _=>False) W w':=by
 have H:=oMatters_ok h.h (ex_ord _ _ _ _ _ _ _ (Or.inr rfl)) (show 3<=8 by decide) (by decide) q
 refine H.mono ?_;rintro e w' ⟨-,h1,ht⟩;obtain⟨p,c,rfl,h2⟩:=h1 q rfl hq;rw[show(exR (some ⟨w1,0,none⟩) (some ⟨w1,0,none⟩) none 1 1 0).length=3 from rfl,hl] at h2;exact⟨p,c,by rw[show(exR (some ⟨w1,0,none⟩) (some ⟨w1,0,none⟩) none 1 1 0).length=3 from rfl,hl],h2.at_ (fun _=>rfl) (Nat.le_refl _),ht⟩
theorem exMatters4(h:ExAt W 10 rp lp hp cp rc lc hc cc w1) :
  Calls Tryz.prog 17 #[.agg #[.slice rp 3 rc,.slice lp 3 lc,.slice hp 3 hc],.slice cp 4 cc,.int .i64 4] W fun e w'=>e=.returned (.tuple #[.slice none 0 0,.int .i64 8])/\Turned (fun _=>False) W w':=by
 have H:=oMatters_ok h.h (ex_ord _ _ _ _ _ _ _ (Or.inr rfl)) (show 3<=8 by decide) (by decide) 4
 refine H.mono ?_;rintro e w' ⟨h1,-,ht⟩;exact⟨h1 (Or.inr (by decide)),ht⟩
theorem exDue(h:ExAt W 10 rp lp hp cp rc lc hc cc w1) (o:Or) (po:Option Addr) (co:Nat) (ho:At W.heap.size W 4 orderCells [o] po co) (so:SzR o.limit 24000300) {v:Int} (hv:dueE 4 [exN 5,exN 4,exN 2,exN 2] [o]=v) :
  Calls Tryz.prog 24 #[.agg #[.slice rp 3 rc,.slice lp 3 lc,.slice hp 3 hc],.slice cp 4 cc,.slice po 1 co] W fun e w'=>e=.returned (.int .i64 v)/\Turned (fun _=>False) W w':=by
 have H:=oDue_ok h.h (ex_ord _ _ _ _ _ _ _ (Or.inr rfl)) (show 3<=8 by decide) (by decide) [o] po co ho (by intro x hx;simp only[List.mem_singleton] at hx;subst hx;exact so.mono (by decide))
 rw[ex10,show exC.length=4 from rfl,hv] at H;exact H
end
theorem exMat3(w1 w2 w3:Option Addr) (c1 c2 c3:Nat):matTo (exR w1 w2 w3 c1 c2 c3) exC (exU 6) (exU 10) 3 3=[0]:=by
 have h0:(exU 6).set 0 ((exU 10).getD 0 zeroR)=exU 10:=rfl;have h1:(exU 6).set 1 ((exU 10).getD 1 zeroR)=exU 6:=rfl;have h2:(exU 6).set 2 ((exU 10).getD 2 zeroR)=exU 6:=rfl;have g0:(exU 10).set 0 ((exU 6).getD 0 zeroR)=exU 6:=rfl;have g1:(exU 10).set 1 ((exU 6).getD 1 zeroR)=exU 10:=rfl;have g2:(exU 10).set 2 ((exU 6).getD 2 zeroR)=exU 10:=rfl;have e:List.range 3=[0,1,2]:=rfl;unfold matTo;rw[e];have f:∀(p:Nat->Bool) (a b c:Bool) (l:List Int),p 0=a->p 1=b->p 2=c->(((if a then[0] else[])++(if b then[1] else[])++(if c then[2] else[]):List Int)=l)->([0,1,2].filter p).map (fun(i:Nat)=>(i:Int))=l:=by
  intro p a b c l ha hb hc hl;rw[<- hl];simp only[List.filter_cons,List.filter_nil,ha,hb,hc];cases a <;> cases b <;> cases c <;> rfl
 refine f _ true false false _ ?_ ?_ ?_ (by decide)
 ·unfold matB changeB;rw[h0,g0,ex6,ex10]
  kernel_rfl
 ·unfold matB changeB;rw[h1,g1,ex6,ex10]
  kernel_rfl
 ·unfold matB changeB;rw[h2,g2,ex6,ex10]
  kernel_rfl
theorem exMat0(w1 w2 w3:Option Addr) (c1 c2 c3:Nat):matTo (exR w1 w2 w3 c1 c2 c3) exC (exU 6) (exU 10) 0 3=[]:=by
 have h0:(exU 6).set 0 ((exU 10).getD 0 zeroR)=exU 10:=rfl;have h1:(exU 6).set 1 ((exU 10).getD 1 zeroR)=exU 6:=rfl;have h2:(exU 6).set 2 ((exU 10).getD 2 zeroR)=exU 6:=rfl;have g0:(exU 10).set 0 ((exU 6).getD 0 zeroR)=exU 6:=rfl;have g1:(exU 10).set 1 ((exU 6).getD 1 zeroR)=exU 10:=rfl;have g2:(exU 10).set 2 ((exU 6).getD 2 zeroR)=exU 10:=rfl;have e:List.range 3=[0,1,2]:=rfl;unfold matTo;rw[e];have f:∀(p:Nat->Bool) (a b c:Bool) (l:List Int),p 0=a->p 1=b->p 2=c->(((if a then[0] else[])++(if b then[1] else[])++(if c then[2] else[]):List Int)=l)->([0,1,2].filter p).map (fun(i:Nat)=>(i:Int))=l:=by
  intro p a b c l ha hb hc hl;rw[<- hl];simp only[List.filter_cons,List.filter_nil,ha,hb,hc];cases a <;> cases b <;> cases c <;> rfl
 refine f _ false false false _ ?_ ?_ ?_ (by decide)
 ·unfold matB changeB;rw[h0,g0,ex6,ex10]
  kernel_rfl
 ·unfold matB changeB;rw[h1,g1,ex6,ex10]
  kernel_rfl
 ·unfold matB changeB;rw[h2,g2,ex6,ex10]
  kernel_rfl
theorem exDue1:dueE 4 [exN 5,exN 4,exN 2,exN 2] [⟨3,exN 1⟩]=22:=by kernel_rfl
theorem exDue2:dueE 4 [exN 5,exN 4,exN 2,exN 2] [⟨3,repR ((5:Nat) / (2:Nat):Rat)⟩]=0:=by kernel_rfl
end Go.Proofs.YtanhhdndgkhcfaaGreatDoor
