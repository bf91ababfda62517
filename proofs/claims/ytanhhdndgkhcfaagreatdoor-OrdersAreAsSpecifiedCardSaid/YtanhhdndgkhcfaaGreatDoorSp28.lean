/- Part 28 of the proof of lawSpec.card: SupRefI, OrdRefB, OrdOrders, OrdRefC. Conditions: those of each theorem. -/
import Derived.Test.YtanhhdndgkhcfaaGreatDoorSp01
import Derived.Test.YtanhhdndgkhcfaaGreatDoorSp21
import Derived.Test.YtanhhdndgkhcfaaGreatDoorSp24
import Derived.Test.YtanhhdndgkhcfaaGreatDoorSp27
set_option maxRecDepth 20000
set_option maxHeartbeats 4000000
namespace Go.Proofs.YtanhhdndgkhcfaaGreatDoor
open Go Go.Proofs Go.RowKit
attribute [local go_sem] Oper.semAt_some
attribute [local go_sem ↓] run_eql_rat' run_neq_rat'
theorem SupOK.sok{rs:List Rc} {us:List Rv} {cs:List Cl} (h:SupOK rs us cs) (hn8:rs.length<=8) (hm12:cs.length<=12) (su:∀u∈us,SzR u 20) (sc:∀c∈cs,SzR c.amt 20):SOK rs us cs :=
 ⟨h.riv,h.len,hn8,hm12,su,sc,h.cl,h.nat⟩
theorem results_yAllot(tmps:Array Value) (w:World) (g:Nat) (a b:Value) (hp:tmps.getD 4 undef=.pointer (some ⟨g,0,none⟩)) (hg:w.heap[g]? = some (.cells #[a,b] 90 (0,0))) :
  (results Tryz.f42 tmps).run Tryz.prog w=.ok (.agg #[a,b]) w :=
 results_cell_row (fn:=Tryz.f42) rfl tmps w g 90 #[a,b] (0,0) _ hp hg Tryz.underlying90 rfl (by kernel_rfl)
theorem size_start{rs:List Rc} {us:List Rv} {cs:List Cl} (h:SOK rs us cs):SzS (onN (rs.map (·.down))) rs.length cs.length (placeK cs) (gainQ us) (fun _=>0) 0 265 (leftR cs (-1)) 177:=by
 refine⟨by decide,fun g=>?_,bytes_zero 440,?_,fun k=>bytes_zero 476⟩
 ·rw[rest_zero];have h5:rs.length*22<=8*22:=Nat.mul_le_mul_right _ h.n8;exact(pass_bytes (b:=20) (fun p _=>gain_bytes h.su p) g).mono (by omega)
 ·have h1:leftR cs (-1)<=12:=Nat.le_trans (cnt_le _ _) h.m12;have h2:2 ^ leftR cs (-1)<=2 ^ 12:=Nat.pow_le_pow_right (by decide) h1
  have h3:=Nat.mul_le_mul_left (177+2*265+2) h2;exact Nat.le_trans h3 (by decide)
theorem At.apart{α:Type} {M N s c:Nat} {W V:World} {enc:α->List Value} {l:List α} {p:Option Addr} {C:Nat->Prop} (h:At M W s enc l p c) (hb:∀b a s,p=some ⟨b,a,s⟩->N<=b) (ht:Turned C W V) (hC:∀k,C k->k < N):At M V s enc l p c :=
 ⟨h.cap,h.mx,fun i x hx=>by
  obtain⟨b,a,h1,h2,h3⟩:=h.cel i x hx;refine⟨b,a,h1,h2,fun j v hv=>cellT ht (fun hk=>?_) (h3 j v hv)⟩
  have:=hb b a none h1;have:=hC b hk;omega⟩
section
variable {rs:List Rc} {us:List Rv} {cs:List Cl} {rp gp cp:Option Addr} {rc gc cc:Nat} {W:World}
theorem yAllot_ok(hr:RivAt W.heap.size W rs rp rc) (hg:At W.heap.size W 3 ratCells us gp gc) (hc:At W.heap.size W 5 claimCells cs cp cc) (su:∀u∈us,SzR u 20) (sc:∀c∈cs,SzR c.amt 20) (he:supE rs us cs=0) (hn8:rs.length<=8) (hm12:cs.length<=12) :
  Calls Tryz.prog 42 #[.agg #[.slice rp rs.length rc,.slice gp us.length gc],.slice cp cs.length cc] W fun e w'=>∃q c,e=.returned (.agg #[.slice q cs.length c,.int .i64 0])/\(∀b a s,q=some ⟨b,a,s⟩->W.heap.size<=b)/\At w'.heap.size w' 3 ratCells (takesR rs cs us) q c/\(∀u∈takesR rs cs us,SzR u 2920300)/\Turned (fun _=>False) W w':=by
 have hok:=(supE_zero he).sok hn8 hm12 su sc;have hin:SIn W.heap.size W rs us cs rp gp cp rc gc cc:=⟨hr.at_,hg,hc⟩;have HC:=zh (fun A (hA:Turned (fun _=>False) W A)=>yCheck_any rs us cs rp gp cp rc gc cc A ((hr.turned hA).mono hA.size) (hg.on hA) (hc.on hA) (fun u hu=>(su u hu).mono (by omega)) (fun c hc=>(sc c hc).mono (by omega)))
 have HRK:=zh (fun(A:World) (hA:Turned (fun _=>False) W A) (tp:Option Addr) (tc r kx:Nat) (t:Nat->Rat) (ht:At A.heap.size A 3 ratCells (repL cs.length t) tp tc) (hN2:W.heap.size+2<=A.heap.size) (hf:∀b a s,tp=some ⟨b,a,s⟩->W.heap.size+2<=b) (h2:RankedQ (onN (rs.map (·.down))) rs.length cs.length (placeK cs) (rankK cs) (amtK cs) (gainQ us) r t) (h3:SzS (onN (rs.map (·.down))) rs.length cs.length (placeK cs) (gainQ us) t 0 265 (leftR cs ((r:Int)-1)) kx) =>
  yRank_any rs us cs rp gp cp tp rc gc cc tc r kx t A (hin.on hA) ht hok (W.heap.size+2) hN2 hf h2 h3)
 have HR0:=zh (rank_start (on:=onN (rs.map (·.down))) (n:=rs.length) (m:=cs.length) (place:=placeK cs) (rank:=rankK cs) (a:=amtK cs) (x:=gainQ us) (fun k _=>(supE_zero he).amt k) (fun p _=>gain_nonneg (supE_zero he).nat p) (fun k hk=>((supE_zero he).rank hk).1))
 have HZ0:=zh (size_start hok);have HEND:=zh (fun(t:Nat->Rat) (h:RankedQ (onN (rs.map (·.down))) rs.length cs.length (placeK cs) (rankK cs) (amtK cs) (gainQ us) (101:Nat) t)=>take_one (supE_zero he) (rank_end h fun k hk=>by have:=((supE_zero he).rank hk).2;omega))
 have hlen:=hok.len;rw[he,hlen] at HC;rw[hlen] at HRK;obtain⟨n,hn⟩ : ∃n,rs.length=n:=⟨_,rfl⟩;obtain⟨m,hm⟩ : ∃n,cs.length=n:=⟨_,rfl⟩;obtain⟨P,hP⟩ : ∃P:Int->(Nat->Rat)->Prop,(fun r t=>RankedQ (onN (rs.map (·.down))) rs.length cs.length (placeK cs) (rankK cs) (amtK cs) (gainQ us) r t)=P:=⟨_,rfl⟩
 obtain⟨Z,hZ⟩ : ∃Z:Int->Nat->(Nat->Rat)->Prop,(fun r kx t=>SzS (onN (rs.map (·.down))) rs.length cs.length (placeK cs) (gainQ us) t 0 265 (leftR cs r) kx)=Z:=⟨_,rfl⟩
 have HRK2:=zh (fun(A:World) (hA:Turned (fun _=>False) W A) (tp:Option Addr) (tc r kx:Nat) (t:Nat->Rat) (ht:At A.heap.size A 3 ratCells (repL m t) tp tc) (hN2:W.heap.size+2<=A.heap.size) (hf:∀b a s,tp=some ⟨b,a,s⟩->W.heap.size+2<=b) (h2:P r t) (h3:Z ((r:Int)-1) kx t) =>
  (show Calls Tryz.prog 76 #[.agg #[.slice rp n rc,.slice gp n gc],.slice cp m cc,.slice tp m tc,.int .i64 r] A fun e w'=>∃t' kx' q c,e=.returned (.slice q m c)/\(∀b a s,q=some ⟨b,a,s⟩->W.heap.size+2<=b)/\At w'.heap.size w' 3 ratCells (repL m t') q c/\P ((r:Int)+1) t'/\Z r kx' t'/\Turned (fun _=>False) A w' from by
    subst hP hZ;rw[<- hn,<- hm];rw[<- hm] at ht;exact HRK.out A hA tp tc r kx t ht hN2 hf h2 h3))
 have HP0:Hid (P 0 fun _=>0):=zh (by rw[<- hP];exact HR0.out)
 have HZ1:Hid (Z (-1) 177 fun _=>0):=zh (by rw[<- hZ];exact HZ0.out)
 have HSZ2:Hid (∀(t:Nat->Rat) (r:Int) (kx:Nat),Z r kx t->∀u∈repL m t,SzR u 2920300):=zh fun t r kx h u hu=>by
  rw[<- hZ] at h;have h:=(show SzS (onN (rs.map (·.down))) rs.length cs.length (placeK cs) (gainQ us) t 0 265 (leftR cs r) kx from h);unfold repL at hu;obtain⟨k,-,rfl⟩:=List.mem_map.1 hu;exact SzR.rep ((h.take k).mono (by have:=h.bound;omega))
 have HEND2:Hid (∀t,P (101:Nat) t->repL m t=takesR rs cs us):=zh fun t h=>by
  rw[<- hm];refine HEND.out t ?_;rw[<- hP] at h;exact h
 rw[hn,hm] at HC;rw[hlen,hn,hm];have hmm:(m:Int)<=12:=by omega
 have hmk:∀w:World,(Instr.makeSlice 23 (.int .i64 m) (.int .i64 m)).run Tryz.prog w=.ok (.slice (some ⟨w.heap.size,0,none⟩) m m) (w.alloc (.cells (madeCells #[.bool false,.string ⟨#[]⟩,.string ⟨#[]⟩] (m*3)) 68)):=fun w=>make_rats w m (by omega)
 have T0:=zh (((zr W).alloc (.cells #[.slice rp n rc,.slice gp n gc] 65 (0,0))).alloc (.cells #[.slice none 0 0,.int .i64 0] 90 (0,0)));have n0:=zh (new_first W (.cells #[.slice rp n rc,.slice gp n gc] 65 (0,0)) (.cells #[.slice none 0 0,.int .i64 0] 90 (0,0)));have n1:=zh (new_second W (.cells #[.slice rp n rc,.slice gp n gc] 65 (0,0)) (.cells #[.slice none 0 0,.int .i64 0] 90 (0,0)));clear hr hg hc su sc he hn8 hm12 hok hin hlen hn hm hP hZ HRK HR0 HZ0 HEND;go_enter Tryz.func42,Tryz.ntmps42;go_wp2_with fail;refine(HC.out _ T0.out).mono ?_;rintro e w1 ⟨rfl,t1⟩;have HI0:=zh (And.intro (T0.out.trans t1) (And.intro (keepB t1 n0.out) (keepB t1 n1.out)));clear t1;go_wp2_with fail
 go_loopw [6,7] (fun v i wr=>∃(k:Nat) (t:Nat->Rat) (kx:Nat) (q:Option Addr) (c:Nat),k<=101/\i=(.int .i64 k)/\v=.slice q m c/\Hid ((∀b a s,q=some ⟨b,a,s⟩->W.heap.size+2<=b)/\At wr.heap.size wr 3 ratCells (repL m t) q c/\P k t/\Z ((k:Int)-1) kx t/\Turned (fun _=>False) W wr/\wr.heap[W.heap.size]? = some (.cells #[.slice rp n rc,.slice gp n gc] 65 (0,0))/\wr.heap[W.heap.size+1]? = some (.cells #[.slice none 0 0,.int .i64 0] 90 (0,0)))) (fun _ i _=>101-(intOf i).toNat)
 case atStart =>
  refine⟨0,_,177,_,_,Nat.zero_le _,rfl,rfl,zh ⟨fun b a s h=>?_,?_,HP0.out,HZ1.out,HI0.out.1.alloc _,keepB ((zr w1).alloc _) HI0.out.2.1,keepB ((zr w1).alloc _) HI0.out.2.2⟩⟩
  ·cases h
   have:=getElem?_lt HI0.out.2.2;omega
  ·have h1:=OwnR.made w1 m;rw[repL_zero] at h1;have h2:=h1.at_ h1.lt (by rw[repL_len];unfold maxLen;omega)
   rwa [repL_len] at h2
 case round =>
  obtain⟨k,t,kx,q,c,hk,rfl,rfl,HJ⟩:=hrel;clear HI0 HP0 HZ1;obtain⟨c0,c1⟩:=box2c HJ.out.2.2.2.2.2.1;by_cases hlt:k<=100
  ·have hk1:(k:Int)<=100:=by omega
   go_wp2_with fail;refine(HRK2.out wr HJ.out.2.2.2.2.1 q c k kx t HJ.out.2.1 (by have:=getElem?_lt HJ.out.2.2.2.2.2.2;omega) HJ.out.1 HJ.out.2.2.1 HJ.out.2.2.2.1).mono ?_
   rintro e w2 ⟨t',kx',q',c',rfl,hf,ha,hp,hz,u1⟩;have HJ2:Hid ((∀b a s,q'=some ⟨b,a,s⟩->W.heap.size+2<=b)/\At w2.heap.size w2 3 ratCells (repL m t') q' c'/\P ((k+1:Nat):Int) t'/\Z (((k+1:Nat):Int)-1) kx' t'/\Turned (fun _=>False) W w2/\w2.heap[W.heap.size]? = some (.cells #[.slice rp n rc,.slice gp n gc] 65 (0,0))/\w2.heap[W.heap.size+1]? = some (.cells #[.slice none 0 0,.int .i64 0] 90 (0,0))) :=
    zh ⟨hf,ha,by rw[show((k+1:Nat):Int)=(k:Int)+1 by omega];exact hp,by rw[show((k+1:Nat):Int)-1=(k:Int) by omega];exact hz,HJ.out.2.2.2.2.1.trans u1,keepB u1 HJ.out.2.2.2.2.2.1,keepB u1 HJ.out.2.2.2.2.2.2⟩
   clear hf ha hp hz u1 c0 c1;go_wp2_with fail
   go_roundw
   case rel=>exact⟨k+1,t',kx',q',c',by omega,by go_num,rfl,HJ2⟩
   case measure=>simp[intOf];omega
  ·obtain rfl:k=101:=by omega
   obtain⟨y0,y1,y2,y3⟩:=box2' HJ.out.2.2.2.2.2.2;go_wp2_with fail;have HK:=set2' HJ.out.2.2.2.2.2.2 (.slice q m c) (.int .i64 0);have hb:¬W.heap.size+1 < W.heap.size:=by omega
   refine bodyPost_ret (results_yAllot _ _ (W.heap.size+1) _ _ rfl HK.1) rfl ?_;refine⟨q,c,rfl,fun b a s h=>by have:=HJ.out.1 b a s h;omega,?_,?_,HJ.out.2.2.2.2.1.fresh HK.2 fun g hg=>by omega⟩
   all_goals rw[<- HEND2.out t HJ.out.2.2.1]
   ·exact((HJ.out.2.1).apart HJ.out.1 HK.2 (fun k hk=>by omega)).mono HK.2.size
   ·exact HSZ2.out t _ kx HJ.out.2.2.2.1
end
attribute [local go_sem ↓] run_eql_rat' run_neq_rat'
theorem run_field_rats(a b:Value) (w:World):(Instr.field 90 (.agg #[a,b]) 0).run Tryz.prog w=.ok a w:=by kernel_rfl
attribute [local go_sem ↓] run_field_rats
theorem results_lLimits(tmps:Array Value) (w:World) (g:Nat) (a b c:Value) (hp:tmps.getD 4 undef=.pointer (some ⟨g,0,none⟩)) (hg:w.heap[g]? = some (.cells #[a,b,c] 37 (0,0))) :
  (results Tryz.f10 tmps).run Tryz.prog w=.ok (.agg #[a,b,c]) w :=
 results_cell_row (fn:=Tryz.f10) rfl tmps w g 37 #[a,b,c] (0,0) _ hp hg Tryz.underlying37 rfl (by kernel_rfl)
section
variable {rs:List Rc} {lo hi:List Rv} {cs:List Cl} {rp lp hp cp:Option Addr} {rc lc hc cc:Nat} {W:World}
theorem lLimits_bad(h:OIn W rs lo hi cs rp lp hp cp rc lc hc cc) {ev:Int} (he:ordE rs lo hi cs=ev) (h0:ev≠0) :
  Calls Tryz.prog 10 #[.agg #[.slice rp rs.length rc,.slice lp lo.length lc,.slice hp hi.length hc],.slice cp cs.length cc] W fun e w'=>e=.returned (.agg #[.slice none 0 0,.slice none 0 0,.int .i64 ev])/\Turned (fun _=>False) W w':=by
 have HC:=zh (fun A (hA:Turned (fun _=>False) W A)=>lCheck_any rs lo hi cs rp lp hp cp rc lc hc cc A (h.on hA).fc (h.on hA).cl h.sl h.sh h.sc)
 obtain⟨nr,hnr⟩ : ∃n,rs.length=n:=⟨_,rfl⟩;obtain⟨nl,hnl⟩ : ∃n,lo.length=n:=⟨_,rfl⟩;obtain⟨nh,hnh⟩ : ∃n,hi.length=n:=⟨_,rfl⟩;obtain⟨nc,hnc⟩ : ∃n,cs.length=n:=⟨_,rfl⟩;rw[hnr,hnl,hnh,hnc,he] at HC;rw[hnr,hnl,hnh,hnc];have g2:(ev == 0)=false:=by simpa using h0
 have g3:(ev != 0)=true:=by simpa using h0
 have T0:=zh (((zr W).alloc (.cells #[.slice rp nr rc,.slice lp nl lc,.slice hp nh hc] 25 (0,0))).alloc (.cells #[.slice none 0 0,.slice none 0 0,.int .i64 0] 37 (0,0)));have n1:=zh (new_second W (.cells #[.slice rp nr rc,.slice lp nl lc,.slice hp nh hc] 25 (0,0)) (.cells #[.slice none 0 0,.slice none 0 0,.int .i64 0] 37 (0,0)));clear h he h0 hnr hnl hnh hnc;go_enter Tryz.func10,Tryz.ntmps10;go_wp2_with fail;refine(HC.out _ T0.out).mono ?_;rintro e w1 ⟨rfl,t1⟩;have HT1:=zh (T0.out.trans t1);have HB:=zh (keepB t1 n1.out);obtain⟨y0,y1,y2,y3,y4,y5⟩:=box3 HB.out;clear t1;go_wp2_with fail;have HK:=set3 HB.out (.slice none 0 0) (.slice none 0 0) (.int .i64 ev);refine bodyPost_ret (results_lLimits _ _ (W.heap.size+1) _ _ _ rfl HK.1) rfl ?_;exact⟨rfl,HT1.out.fresh HK.2 fun g hg=>by omega⟩
theorem lLimits_ok(h:OIn W rs lo hi cs rp lp hp cp rc lc hc cc) (he:ordE rs lo hi cs=0) (hn8:rs.length<=8) (hm12:cs.length<=12) :
  Calls Tryz.prog 10 #[.agg #[.slice rp rs.length rc,.slice lp lo.length lc,.slice hp hi.length hc],.slice cp cs.length cc] W fun e w'=>∃p1 c1 p2 c2,e=.returned (.agg #[.slice p1 cs.length c1,.slice p2 cs.length c2,.int .i64 0])/\(∀b a s,p1=some ⟨b,a,s⟩\/p2=some ⟨b,a,s⟩->W.heap.size<=b)/\At w'.heap.size w' 3 ratCells (takesR rs cs lo) p1 c1/\At w'.heap.size w' 3 ratCells (takesR rs cs hi) p2 c2/\(∀u,u∈takesR rs cs lo\/u∈takesR rs cs hi->SzR u 2920300)/\Turned (fun _=>False) W w':=by
 have hok:=ordE_zero he;have HC:=zh (fun A (hA:Turned (fun _=>False) W A)=>lCheck_any rs lo hi cs rp lp hp cp rc lc hc cc A (h.on hA).fc (h.on hA).cl h.sl h.sh h.sc)
 have HL:=zh (fun A (hA:Turned (fun _=>False) W A)=>yAllot_ok (h.on hA).fc.riv (h.on hA).fc.lo (h.on hA).cl h.sl h.sc hok.e1 hn8 hm12)
 have HH:=zh (fun A (hA:Turned (fun _=>False) W A)=>yAllot_ok (h.on hA).fc.riv (h.on hA).fc.hi (h.on hA).cl h.sh h.sc hok.e2 hn8 hm12)
 have HM:Hid (∀A B:World,∀(t:List Rv) (p:Option Addr) (c:Nat),At A.heap.size A 3 ratCells t p c->Turned (fun _=>False) A B->At B.heap.size B 3 ratCells t p c):=zh fun A B t p c h1 h2=>h1.on h2
 obtain⟨ta,hta⟩ : ∃t,takesR rs cs lo=t:=⟨_,rfl⟩;obtain⟨tb,htb⟩ : ∃t,takesR rs cs hi=t:=⟨_,rfl⟩;obtain⟨nr,hnr⟩ : ∃n,rs.length=n:=⟨_,rfl⟩;obtain⟨nl,hnl⟩ : ∃n,lo.length=n:=⟨_,rfl⟩;obtain⟨nh,hnh⟩ : ∃n,hi.length=n:=⟨_,rfl⟩;obtain⟨nc,hnc⟩ : ∃n,cs.length=n:=⟨_,rfl⟩;rw[hnr,hnl,hnh,hnc,he] at HC;rw[hnr,hnl,hnc,hta] at HL;rw[hnr,hnh,hnc,htb] at HH;rw[hnr,hnl,hnh,hnc,hta,htb];have T0:=zh (((zr W).alloc (.cells #[.slice rp nr rc,.slice lp nl lc,.slice hp nh hc] 25 (0,0))).alloc (.cells #[.slice none 0 0,.slice none 0 0,.int .i64 0] 37 (0,0)));have n0:=zh (new_first W (.cells #[.slice rp nr rc,.slice lp nl lc,.slice hp nh hc] 25 (0,0)) (.cells #[.slice none 0 0,.slice none 0 0,.int .i64 0] 37 (0,0)));have n1:=zh (new_second W (.cells #[.slice rp nr rc,.slice lp nl lc,.slice hp nh hc] 25 (0,0)) (.cells #[.slice none 0 0,.slice none 0 0,.int .i64 0] 37 (0,0)));clear h he hok hn8 hm12 hnr hnl hnh hnc hta htb;go_enter Tryz.func10,Tryz.ntmps10;go_wp2_with fail;refine(HC.out _ T0.out).mono ?_;rintro e w1 ⟨rfl,t1⟩;have HT1:=zh (T0.out.trans t1);have HB0:=zh (keepB t1 n0.out);have HB1:=zh (keepB t1 n1.out);have HCA:Hid (∀A,Turned (fun _=>False) w1 A->A.cell? ⟨W.heap.size,0,none⟩=some (.slice rp nr rc)/\A.cell? ⟨W.heap.size,1,none⟩=some (.slice lp nl lc)/\A.cell? ⟨W.heap.size,2,none⟩=some (.slice hp nh hc)):=zh fun A hA=>⟨(box3 (keepB hA HB0.out)).1,(box3 (keepB hA HB0.out)).2.1,(box3 (keepB hA HB0.out)).2.2.1⟩
 have HD0:=zh (zr w1).drew;have HK0:=zh (HCA.out _ HD0.out);clear t1 T0 n0 n1 HC
 go_upto_region 4 with fail
 go_region_held3 (fun A=>A.cell? ⟨W.heap.size,0,none⟩=some (.slice rp nr rc)/\A.cell? ⟨W.heap.size,1,none⟩=some (.slice lp nl lc)/\A.cell? ⟨W.heap.size,2,none⟩=some (.slice hp nh hc))
  (first | exact HK5.out | exact HK4.out | exact HK3.out | exact HK2.out | exact HK1.out | exact HK0.out | go_keep)
  (first
   | (have hq:=HK3;clear hq;go_at_call 42;refine(HH.out _ (HT1.out.trans U3.out)).mono ?_;rintro e w5 ⟨p2,c2,rfl,hf2,ha2,hz2,u4⟩;have HF2:=zh (And.intro hf2 U3.out.size);have HZ2:=zh hz2;have U4:=zh (U3.out.trans u4);have HA1b:=zh (HM.out _ _ _ _ _ HA1.out ((U2b.out.trans u4)));have HA2:=zh ha2;have HK4:=zh (HCA.out _ U4.out);have HB4:=zh (keepB U4.out HB1.out);obtain⟨y0,y1,y2,y3,y4,y5⟩:=box3 HB4.out;have HS4:=zh (set3 HB4.out (.slice p1 nc c1) (.slice p2 nc c2) (.int .i64 0));have HK5:Hid _:=zh (And.intro (cellT HS4.out.2 (by omega) HK4.out.1) (And.intro (cellT HS4.out.2 (by omega) HK4.out.2.1) (cellT HS4.out.2 (by omega) HK4.out.2.2)));clear u4 ha2 hf2 hz2)
   | (have hq:=HK2;clear hq;go_at_call 36;refine(lSupply_any rp lp hp hp nr nl nh nh rc lc hc hc _).mono ?_;rintro e w4 ⟨rfl,u3⟩;have U3:=zh (U2.out.trans u3);have U2b:=zh u3;have HK3:=zh (HCA.out _ U3.out);clear u3)
   | (have hq:=HK1;clear hq;go_at_call 42;refine(HL.out _ (HT1.out.trans U1.out)).mono ?_;rintro e w3 ⟨p1,c1,rfl,hf1,ha1,hz1,u2⟩;have HF1:=zh (And.intro hf1 U1.out.size);have HZ1:=zh hz1;have U2:=zh (U1.out.trans u2);have HA1:=zh ha1;have HK2:=zh (HCA.out _ U2.out);clear u2 ha1 hf1 hz1)
   | (have hq:=HK0;clear hq;go_at_call 36;refine(lSupply_any rp lp hp lp nr nl nh nl rc lc hc lc _).mono ?_;rintro e w2 ⟨rfl,u1⟩;have U1:=zh (HD0.out.trans u1);have HK1:=zh (HCA.out _ U1.out);clear u1))
 go_wp2_with fail;refine bodyPost_ret (results_lLimits _ _ (W.heap.size+1) _ _ _ rfl HS4.out.1) rfl ?_;have hz:=getElem?_lt HB1.out;have hf1:∀b a s,p1=some ⟨b,a,s⟩->w1.heap.size<=b:=fun b a s h=>by have:=HF1.out.1 b a s h;have:=HF1.out.2;omega
 have hf2:∀b a s,p2=some ⟨b,a,s⟩->w1.heap.size<=b:=fun b a s h=>by have:=HF2.out.1 b a s h;have:=HF2.out.2;omega
 refine⟨p1,c1,p2,c2,rfl,fun b a s h=>?_,((HA1b.out.apart hf1 HS4.out.2 fun k hk=>by omega).mono HS4.out.2.size),((HA2.out.apart hf2 HS4.out.2 fun k hk=>by omega).mono HS4.out.2.size),fun u hu=>hu.elim (HZ1.out u) (HZ2.out u),(HT1.out.trans U4.out).fresh HS4.out.2 fun g hg=>by omega⟩
 rcases h with h | h
 ·have:=hf1 b a s h;have:=HT1.out.size;omega
 ·have:=hf2 b a s h;have:=HT1.out.size;omega
end
attribute [local go_sem ↓] run_eql_rat' run_neq_rat'
def ordersTo (cs:List Cl) (ts:List Rv) (k:Nat):List Or:=((List.range k).filter fun i=>!sameR (ts.getD i zeroR) (cs.getD i noCl).amt).map fun(i:Nat)=>⟨i,ts.getD i zeroR⟩
def ordersL (cs:List Cl) (ts:List Rv):List Or:=ordersTo cs ts cs.length
def sureTo (cs:List Cl) (ts:List Rv) (k:Nat):List Int:=((List.range k).filter fun i=>sameR (ts.getD i zeroR) (cs.getD i noCl).amt).map fun(i:Nat)=>(i:Int)
def sureL (cs:List Cl) (ts:List Rv):List Int:=sureTo cs ts cs.length
theorem ordersTo_succ{cs:List Cl} {ts:List Rv} {k:Nat} {c:Cl} {t:Rv} (hc:cs[k]? = some c) (ht:ts[k]? = some t):ordersTo cs ts (k+1)=if sameR t c.amt=true then ordersTo cs ts k else ordersTo cs ts k++[⟨k,t⟩]:=by
 unfold ordersTo;rw[List.range_succ,List.filter_append,List.map_append,List.filter_cons,List.filter_nil,getD_of hc,getD_of ht];cases sameR t c.amt
 ·simp[ht]
 ·simp
theorem sureTo_succ{cs:List Cl} {ts:List Rv} {k:Nat} {c:Cl} {t:Rv} (hc:cs[k]? = some c) (ht:ts[k]? = some t):sureTo cs ts (k+1)=if sameR t c.amt=true then sureTo cs ts k++[(k:Int)] else sureTo cs ts k:=by
 unfold sureTo;rw[List.range_succ,List.filter_append,List.map_append,List.filter_cons,List.filter_nil,getD_of hc,getD_of ht];cases sameR t c.amt
 ·simp
 ·simp
theorem orders_size(cs:List Cl) {ts:List Rv} {k:Nat} (h:∀u∈ts,SzR u k):∀o∈ordersL cs ts,SzR o.limit k:=fun o ho=>by
 unfold ordersL ordersTo at ho;obtain⟨i,hi,rfl⟩:=List.mem_map.1 ho;show SzR (ts.getD i zeroR) k;rw[List.getD_eq_getElem?_getD];cases hk:ts[i]? with
 | none=>exact⟨Nat.zero_le _,Nat.zero_le _⟩
 | some u=>exact h u (List.mem_of_getElem? hk)
theorem ordersTo_len(cs:List Cl) (ts:List Rv) (k:Nat):(ordersTo cs ts k).length<=k:=by
 unfold ordersTo;rw[List.length_map];exact Nat.le_trans (List.length_filter_le _ _) (Nat.le_of_eq List.length_range)
theorem sureTo_len(cs:List Cl) (ts:List Rv) (k:Nat):(sureTo cs ts k).length<=k:=by
 unfold sureTo;rw[List.length_map];exact Nat.le_trans (List.length_filter_le _ _) (Nat.le_of_eq List.length_range)
section
variable {rs:List Rc} {lo hi:List Rv} {cs:List Cl} {rp lp hp cp:Option Addr} {rc lc hc cc:Nat} {W:World}
theorem oOrders_bad(h:OIn W rs lo hi cs rp lp hp cp rc lc hc cc) {ev:Int} (he:ordE rs lo hi cs=ev) (h0:ev≠0) :
  Calls Tryz.prog 11 #[.agg #[.slice rp rs.length rc,.slice lp lo.length lc,.slice hp hi.length hc],.slice cp cs.length cc] W fun e w'=>e=.returned (.tuple #[.slice none 0 0,.int .i64 ev])/\Turned (fun _=>False) W w':=by
 have HC:=zh (fun A (hA:Turned (fun _=>False) W A)=>oLimits_bad (h.on hA) he h0)
 obtain⟨nr,hnr⟩ : ∃n,rs.length=n:=⟨_,rfl⟩;obtain⟨nl,hnl⟩ : ∃n,lo.length=n:=⟨_,rfl⟩;obtain⟨nh,hnh⟩ : ∃n,hi.length=n:=⟨_,rfl⟩;obtain⟨nc,hnc⟩ : ∃n,cs.length=n:=⟨_,rfl⟩;rw[hnr,hnl,hnh,hnc] at HC ⊢;have g2:(ev == 0)=false:=by simpa using h0
 have g3:(ev != 0)=true:=by simpa using h0
 have HT:=zh ((zr W).alloc (.cells #[.slice rp nr rc,.slice lp nl lc,.slice hp nh hc] 25));clear h he hnr hnl hnh hnc h0;go_enter Tryz.func11,Tryz.ntmps11;go_wp2_with fail;refine(HC.out _ HT.out).mono ?_;rintro e w1 ⟨rfl,t1⟩;have HT1:=zh (HT.out.trans t1);clear t1;go_wp2_with fail
 go_ret2
 exact⟨rfl,HT1.out⟩
theorem oOrders_ok(h:OIn W rs lo hi cs rp lp hp cp rc lc hc cc) (he:ordE rs lo hi cs=0) (hn8:rs.length<=8) (hm12:cs.length<=12) :
  Calls Tryz.prog 11 #[.agg #[.slice rp rs.length rc,.slice lp lo.length lc,.slice hp hi.length hc],.slice cp cs.length cc] W fun e w'=>∃p c,e=.returned (.tuple #[.slice p (ordersL cs (takesR rs cs hi)).length c,.int .i64 0]) /\
   Grown w' W.heap.size 70 4 orderCells (.slice p (ordersL cs (takesR rs cs hi)).length c) (ordersL cs (takesR rs cs hi))/\(∀o∈ordersL cs (takesR rs cs hi),SzR o.limit 24000300)/\Turned (fun _=>False) W w':=by
 have HC:=zh (fun A (hA:Turned (fun _=>False) W A)=>oLimits_ok (h.on hA) he hn8 hm12)
 have HCL:=zh h.cl;have htl:(takesR rs cs hi).length=cs.length:=repL_len _ _;obtain⟨tl,htq⟩ : ∃t,takesR rs cs hi=t:=⟨_,rfl⟩;obtain⟨nr,hnr⟩ : ∃n,rs.length=n:=⟨_,rfl⟩;obtain⟨nl,hnl⟩ : ∃n,lo.length=n:=⟨_,rfl⟩;obtain⟨nh,hnh⟩ : ∃n,hi.length=n:=⟨_,rfl⟩;obtain⟨nc,hnc⟩ : ∃n,cs.length=n:=⟨_,rfl⟩;rw[hnr,hnl,hnh,hnc,htq] at HC;rw[htq] at htl;rw[hnc] at htl hm12;rw[hnr,hnl,hnh,hnc,htq];have HOL:Hid (ordersL cs tl=ordersTo cs tl nc):=zh (by unfold ordersL;rw[hnc])
 have HTL:=zh htl;have HNC:=zh hnc;have HT:=zh ((zr W).alloc (.cells #[.slice rp nr rc,.slice lp nl lc,.slice hp nh hc] 25));have hmx:(nc:Int)<=12:=by omega
 clear h he hnr hnl hnh hnc hn8 hm12 htl htq;go_enter Tryz.func11,Tryz.ntmps11;go_wp2_with fail;refine(HC.out _ HT.out).mono ?_;rintro e w1 ⟨ta,tb,rfl,hab,-,hob,hsz,t1⟩;have HSZ:Hid (∀o∈ordersL cs tl,SzR o.limit 24000300):=zh (orders_size cs hsz.2);have HT1:=zh (HT.out.trans t1);have HOB:=zh hob;clear t1 hab hob hsz HC;go_wp2_with fail
 go_loopw [9,24] (fun v i wr=>∃(k:Nat) (p:Option Addr) (c:Nat),k<=nc/\i=(.int .i64 k)/\v=.slice p (ordersTo cs tl k).length c/\Hid (Grown wr w1.heap.size 70 4 orderCells (.slice p (ordersTo cs tl k).length c) (ordersTo cs tl k)/\Turned (fun _=>False) w1 wr)) (fun _ i _=>nc-(intOf i).toNat)
 case atStart=>exact⟨0,none,0,Nat.zero_le _,rfl,rfl,zh ⟨Grown.nil _ _ _ _ _,Turned.refl _ _⟩⟩
 case round =>
  obtain⟨k,p,c,hk,rfl,rfl,HI⟩:=hrel;by_cases hlt:k < nc
  ·have hx:cs[k]? = some (cs[k]'(by rw[HNC.out];exact hlt)):=List.getElem?_eq_getElem _
   obtain⟨⟨pl,rk,⟨un,ux,ud⟩⟩,hxe⟩ : ∃u,cs[k]'(by rw[HNC.out];exact hlt)=u:=⟨_,rfl⟩
   rw[hxe] at hx;have hy:tl[k]? = some (tl[k]'(by rw[HTL.out];exact hlt)):=List.getElem?_eq_getElem _
   obtain⟨⟨yn,yx,yd⟩,hye⟩ : ∃u,tl[k]'(by rw[HTL.out];exact hlt)=u:=⟨_,rfl⟩
   rw[hye] at hy;have HST:=zh (ordersTo_succ hx hy);obtain⟨b,a,rfl,-,e0,e1,e2,e3,e4⟩:=(HCL.out.turned (HT1.out.trans HI.out.2)).claims hx;obtain⟨g0,g1,g2⟩:=(HOB.out.turned HI.out.2 id).cells hy;obtain⟨s,hs⟩ : ∃s,sameR ⟨yn,yx,yd⟩ ⟨un,ux,ud⟩=s:=⟨_,rfl⟩;rw[show(⟨pl,rk,⟨un,ux,ud⟩⟩ : Cl).amt=⟨un,ux,ud⟩ from rfl,hs] at HST;have hk0:(0:Int)<=k:=by omega
   have hk1:(k:Int) < nc:=by omega
   have TA:=(zr wr).alloc (.cells #[.int .i64 pl,.int .i64 rk,.bool un,.string ux,.string ud] 75);have z0:=World.alloc_heap_new wr (.cells #[.int .i64 pl,.int .i64 rk,.bool un,.string ux,.string ud] 75);obtain⟨-,-,y2,y3,y4⟩:=box5 z0;have j0:=cellT TA id g0;have j1:=cellT TA id g1;have j2:=cellT TA id g2;have HTA:=zh TA;clear hx hxe hy hye TA z0;have hlen:=ordersTo_len cs tl k;cases s
   ·replace HST:=zh (HST.out.trans (if_neg (by simp)))
    go_wp2_with fail
    go_quiet (fail)
    have HTB:=zh (HTA.out.trans (drewN_turned _ _ nq));obtain⟨w2,hw2⟩ : ∃w,w=(wr.alloc (.cells #[.int .i64 pl,.int .i64 rk,.bool un,.string ux,.string ud] 75)).drewN nq:=⟨_,rfl⟩;rw[<- hw2] at HTB ⊢;have q0:=cellT HTB.out id g0;have q1:=cellT HTB.out id g1;have q2:=cellT HTB.out id g2;have HG:=zh (HI.out.1.turned HTB.out fun _ h=>h.elim)
    have HZ:=zh (Nat.le_trans HI.out.2.size HTB.out.size);clear hw2 y2 y3 y4 j0 j1 j2 e0 e1 e2 e3 e4 g0 g1 g2 hs;go_wp2_with (at_builtin;(refine app_order w2 rfl _ _ rfl w1.heap.size (.slice p (ordersTo cs tl k).length c) ⟨k,⟨yn,yx,yd⟩⟩ (ordersTo cs tl k) rfl rfl HG.out HZ.out (by omega) ?_);intro p' c' w4 ho4 ht4;have HS:=zh (And.intro ho4 ht4);clear ho4 ht4)
    go_roundw
    case rel=>exact⟨k+1,p',c',by omega,by go_num,by rw[HST.out];simp,zh ⟨by rw[HST.out];exact HS.out.1,(HI.out.2.trans HTB.out).fresh HS.out.2 fun _=>id⟩⟩
    case measure=>simp[intOf];omega
   ·replace HST:=zh (HST.out.trans (if_pos rfl));go_wp2_with fail
    go_quiet (fail)
    go_wp2_with fail
    go_roundw
    case rel=>exact⟨k+1,p,c,by omega,by go_num,by rw[HST.out],zh ⟨by rw[HST.out];exact HI.out.1.turned (HTA.out.trans (drewN_turned _ _ nq)) fun _ h=>h.elim,HI.out.2.trans (HTA.out.trans (drewN_turned _ _ nq))⟩⟩
    case measure=>simp[intOf];omega
  ·obtain rfl:k=nc:=by omega
   go_wp2_with fail
   go_ret2
   have hz:=HSZ.out;rw[HOL.out] at hz ⊢;exact⟨p,c,rfl,HI.out.1.low HT1.out.size,hz,HT1.out.trans HI.out.2⟩
theorem oSure_bad(h:OIn W rs lo hi cs rp lp hp cp rc lc hc cc) {ev:Int} (he:ordE rs lo hi cs=ev) (h0:ev≠0) :
  Calls Tryz.prog 13 #[.agg #[.slice rp rs.length rc,.slice lp lo.length lc,.slice hp hi.length hc],.slice cp cs.length cc] W fun e w'=>e=.returned (.tuple #[.slice none 0 0,.int .i64 ev])/\Turned (fun _=>False) W w':=by
 have HC:=zh (fun A (hA:Turned (fun _=>False) W A)=>oLimits_bad (h.on hA) he h0)
 obtain⟨nr,hnr⟩ : ∃n,rs.length=n:=⟨_,rfl⟩;obtain⟨nl,hnl⟩ : ∃n,lo.length=n:=⟨_,rfl⟩;obtain⟨nh,hnh⟩ : ∃n,hi.length=n:=⟨_,rfl⟩;obtain⟨nc,hnc⟩ : ∃n,cs.length=n:=⟨_,rfl⟩;rw[hnr,hnl,hnh,hnc] at HC ⊢;have g2:(ev == 0)=false:=by simpa using h0
 have g3:(ev != 0)=true:=by simpa using h0
 have HT:=zh ((zr W).alloc (.cells #[.slice rp nr rc,.slice lp nl lc,.slice hp nh hc] 25));clear h he hnr hnl hnh hnc h0;go_enter Tryz.func13,Tryz.ntmps13;go_wp2_with fail;refine(HC.out _ HT.out).mono ?_;rintro e w1 ⟨rfl,t1⟩;have HT1:=zh (HT.out.trans t1);clear t1;go_wp2_with fail
 go_ret2
 exact⟨rfl,HT1.out⟩
theorem oSure_ok(h:OIn W rs lo hi cs rp lp hp cp rc lc hc cc) (he:ordE rs lo hi cs=0) (hn8:rs.length<=8) (hm12:cs.length<=12) :
  Calls Tryz.prog 13 #[.agg #[.slice rp rs.length rc,.slice lp lo.length lc,.slice hp hi.length hc],.slice cp cs.length cc] W fun e w'=>∃p c,e=.returned (.tuple #[.slice p (sureL cs (takesR rs cs lo)).length c,.int .i64 0]) /\
   Grown w' W.heap.size 3 1 intCells (.slice p (sureL cs (takesR rs cs lo)).length c) (sureL cs (takesR rs cs lo))/\Turned (fun _=>False) W w':=by
 have HC:=zh (fun A (hA:Turned (fun _=>False) W A)=>oLimits_ok (h.on hA) he hn8 hm12)
 have HCL:=zh h.cl;have htl:(takesR rs cs lo).length=cs.length:=repL_len _ _;obtain⟨tl,htq⟩ : ∃t,takesR rs cs lo=t:=⟨_,rfl⟩;obtain⟨nr,hnr⟩ : ∃n,rs.length=n:=⟨_,rfl⟩;obtain⟨nl,hnl⟩ : ∃n,lo.length=n:=⟨_,rfl⟩;obtain⟨nh,hnh⟩ : ∃n,hi.length=n:=⟨_,rfl⟩;obtain⟨nc,hnc⟩ : ∃n,cs.length=n:=⟨_,rfl⟩;rw[hnr,hnl,hnh,hnc,htq] at HC;rw[htq] at htl;rw[hnc] at htl hm12;rw[hnr,hnl,hnh,hnc,htq];have HOL:Hid (sureL cs tl=sureTo cs tl nc):=zh (by unfold sureL;rw[hnc])
 have HTL:=zh htl;have HNC:=zh hnc;have HT:=zh ((zr W).alloc (.cells #[.slice rp nr rc,.slice lp nl lc,.slice hp nh hc] 25));have hmx:(nc:Int)<=12:=by omega
 clear h he hnr hnl hnh hnc hn8 hm12 htl htq;go_enter Tryz.func13,Tryz.ntmps13;go_wp2_with fail;refine(HC.out _ HT.out).mono ?_;rintro e w1 ⟨ta,tb,rfl,hab,hob,-,-,t1⟩;have HT1:=zh (HT.out.trans t1);have HOB:=zh hob;clear t1 hab hob HC;go_wp2_with fail
 go_loopw [9,24] (fun v i wr=>∃(k:Nat) (p:Option Addr) (c:Nat),k<=nc/\i=(.int .i64 k)/\v=.slice p (sureTo cs tl k).length c/\Hid (Grown wr w1.heap.size 3 1 intCells (.slice p (sureTo cs tl k).length c) (sureTo cs tl k)/\Turned (fun _=>False) w1 wr)) (fun _ i _=>nc-(intOf i).toNat)
 case atStart=>exact⟨0,none,0,Nat.zero_le _,rfl,rfl,zh ⟨Grown.nil _ _ _ _ _,Turned.refl _ _⟩⟩
 case round =>
  obtain⟨k,p,c,hk,rfl,rfl,HI⟩:=hrel;by_cases hlt:k < nc
  ·have hx:cs[k]? = some (cs[k]'(by rw[HNC.out];exact hlt)):=List.getElem?_eq_getElem _
   obtain⟨⟨pl,rk,⟨un,ux,ud⟩⟩,hxe⟩ : ∃u,cs[k]'(by rw[HNC.out];exact hlt)=u:=⟨_,rfl⟩
   rw[hxe] at hx;have hy:tl[k]? = some (tl[k]'(by rw[HTL.out];exact hlt)):=List.getElem?_eq_getElem _
   obtain⟨⟨yn,yx,yd⟩,hye⟩ : ∃u,tl[k]'(by rw[HTL.out];exact hlt)=u:=⟨_,rfl⟩
   rw[hye] at hy;have HST:=zh (sureTo_succ hx hy);obtain⟨b,a,rfl,-,e0,e1,e2,e3,e4⟩:=(HCL.out.turned (HT1.out.trans HI.out.2)).claims hx;obtain⟨g0,g1,g2⟩:=(HOB.out.turned HI.out.2 id).cells hy;obtain⟨s,hs⟩ : ∃s,sameR ⟨yn,yx,yd⟩ ⟨un,ux,ud⟩=s:=⟨_,rfl⟩;rw[show(⟨pl,rk,⟨un,ux,ud⟩⟩ : Cl).amt=⟨un,ux,ud⟩ from rfl,hs] at HST;have hk0:(0:Int)<=k:=by omega
   have hk1:(k:Int) < nc:=by omega
   have TA:=(zr wr).alloc (.cells #[.int .i64 pl,.int .i64 rk,.bool un,.string ux,.string ud] 75);have z0:=World.alloc_heap_new wr (.cells #[.int .i64 pl,.int .i64 rk,.bool un,.string ux,.string ud] 75);obtain⟨-,-,y2,y3,y4⟩:=box5 z0;have j0:=cellT TA id g0;have j1:=cellT TA id g1;have j2:=cellT TA id g2;have HTA:=zh TA;clear hx hxe hy hye TA z0;have hlen:=sureTo_len cs tl k;cases s
   ·replace HST:=zh (HST.out.trans (if_neg (by simp)))
    go_wp2_with fail
    go_quiet (fail)
    go_wp2_with fail
    go_roundw
    case rel=>exact⟨k+1,p,c,by omega,by go_num,by rw[HST.out],zh ⟨by rw[HST.out];exact HI.out.1.turned (HTA.out.trans (drewN_turned _ _ nq)) fun _ h=>h.elim,HI.out.2.trans (HTA.out.trans (drewN_turned _ _ nq))⟩⟩
    case measure=>simp[intOf];omega
   ·replace HST:=zh (HST.out.trans (if_pos rfl));go_wp2_with fail
    go_quiet (fail)
    have HTB:=zh (HTA.out.trans (drewN_turned _ _ nq));obtain⟨w2,hw2⟩ : ∃w,w=(wr.alloc (.cells #[.int .i64 pl,.int .i64 rk,.bool un,.string ux,.string ud] 75)).drewN nq:=⟨_,rfl⟩;rw[<- hw2] at HTB ⊢;have q0:=cellT HTB.out id g0;have q1:=cellT HTB.out id g1;have q2:=cellT HTB.out id g2;have HG:=zh (HI.out.1.turned HTB.out fun _ h=>h.elim)
    have HZ:=zh (Nat.le_trans HI.out.2.size HTB.out.size);clear hw2 y2 y3 y4 j0 j1 j2 e0 e1 e2 e3 e4 g0 g1 g2 hs;go_wp2_with (at_builtin;(refine app_int w2 rfl _ _ rfl w1.heap.size (.slice p (sureTo cs tl k).length c) (k:Int) (sureTo cs tl k) rfl rfl HG.out HZ.out (by omega) ?_);intro p' c' w4 ho4 ht4;have HS:=zh (And.intro ho4 ht4);clear ho4 ht4)
    go_roundw
    case rel=>exact⟨k+1,p',c',by omega,by go_num,by rw[HST.out];simp,zh ⟨by rw[HST.out];exact HS.out.1,(HI.out.2.trans HTB.out).fresh HS.out.2 fun _=>id⟩⟩
    case measure=>simp[intOf];omega
  ·obtain rfl:k=nc:=by omega
   go_wp2_with fail
   go_ret2
   rw[HOL.out];exact⟨p,c,rfl,HI.out.1.low HT1.out.size,HT1.out.trans HI.out.2⟩
end
attribute [local go_sem ↓] run_eql_rat' run_neq_rat'
theorem results_lOrders(tmps:Array Value) (w:World) (g:Nat) (a b:Value) (hp:tmps.getD 4 undef=.pointer (some ⟨g,0,none⟩)) (hg:w.heap[g]? = some (.cells #[a,b] 42 (0,0))) :
  (results Tryz.f12 tmps).run Tryz.prog w=.ok (.agg #[a,b]) w :=
 results_cell_row (fn:=Tryz.f12) rfl tmps w g 42 #[a,b] (0,0) _ hp hg Tryz.underlying42 rfl (by kernel_rfl)
theorem results_lSure(tmps:Array Value) (w:World) (g:Nat) (a b:Value) (hp:tmps.getD 4 undef=.pointer (some ⟨g,0,none⟩)) (hg:w.heap[g]? = some (.cells #[a,b] 48 (0,0))) :
  (results Tryz.f14 tmps).run Tryz.prog w=.ok (.agg #[a,b]) w :=
 results_cell_row (fn:=Tryz.f14) rfl tmps w g 48 #[a,b] (0,0) _ hp hg Tryz.underlying48 rfl (by kernel_rfl)
section
variable {rs:List Rc} {lo hi:List Rv} {cs:List Cl} {rp lp hp cp:Option Addr} {rc lc hc cc:Nat} {W:World}
theorem lOrders_bad(h:OIn W rs lo hi cs rp lp hp cp rc lc hc cc) {ev:Int} (he:ordE rs lo hi cs=ev) (h0:ev≠0) :
  Calls Tryz.prog 12 #[.agg #[.slice rp rs.length rc,.slice lp lo.length lc,.slice hp hi.length hc],.slice cp cs.length cc] W fun e w'=>e=.returned (.agg #[.slice none 0 0,.int .i64 ev])/\Turned (fun _=>False) W w':=by
 have HC:=zh (fun A (hA:Turned (fun _=>False) W A)=>lLimits_bad (h.on hA) he h0)
 obtain⟨nr,hnr⟩ : ∃n,rs.length=n:=⟨_,rfl⟩;obtain⟨nl,hnl⟩ : ∃n,lo.length=n:=⟨_,rfl⟩;obtain⟨nh,hnh⟩ : ∃n,hi.length=n:=⟨_,rfl⟩;obtain⟨nc,hnc⟩ : ∃n,cs.length=n:=⟨_,rfl⟩;rw[hnr,hnl,hnh,hnc] at HC ⊢;have g2:(ev == 0)=false:=by simpa using h0
 have g3:(ev != 0)=true:=by simpa using h0
 have T0:=zh (((zr W).alloc (.cells #[.slice rp nr rc,.slice lp nl lc,.slice hp nh hc] 25 (0,0))).alloc (.cells #[.slice none 0 0,.int .i64 0] 42 (0,0)));have n1:=zh (new_second W (.cells #[.slice rp nr rc,.slice lp nl lc,.slice hp nh hc] 25 (0,0)) (.cells #[.slice none 0 0,.int .i64 0] 42 (0,0)));clear h he h0 hnr hnl hnh hnc;go_enter Tryz.func12,Tryz.ntmps12;go_wp2_with fail;refine(HC.out _ T0.out).mono ?_;rintro e w1 ⟨rfl,t1⟩;have HT1:=zh ((T0.out.trans t1).alloc (.cells #[.slice none 0 0,.slice none 0 0,.int .i64 ev] 37 (0,0)));have HB:=zh (keepB ((zr w1).alloc (.cells #[.slice none 0 0,.slice none 0 0,.int .i64 ev] 37 (0,0))) (keepB t1 n1.out));obtain⟨y0,y1,y2,y3⟩:=box2' HB.out;clear t1;go_wp2_with fail;have HK:=set2' HB.out (.slice none 0 0) (.int .i64 ev);refine bodyPost_ret (results_lOrders _ _ (W.heap.size+1) _ _ rfl HK.1) rfl ?_;exact⟨rfl,HT1.out.fresh HK.2 fun g hg=>by omega⟩
theorem lOrders_ok(h:OIn W rs lo hi cs rp lp hp cp rc lc hc cc) (he:ordE rs lo hi cs=0) (hn8:rs.length<=8) (hm12:cs.length<=12) :
  Calls Tryz.prog 12 #[.agg #[.slice rp rs.length rc,.slice lp lo.length lc,.slice hp hi.length hc],.slice cp cs.length cc] W fun e w'=>∃p c,e=.returned (.agg #[.slice p (ordersL cs (takesR rs cs hi)).length c,.int .i64 0]) /\
   (∀b a s,p=some ⟨b,a,s⟩->W.heap.size<=b)/\At w'.heap.size w' 4 orderCells (ordersL cs (takesR rs cs hi)) p c/\(∀u∈takesR rs cs hi,SzR u 2920300)/\Turned (fun _=>False) W w':=by
 have HC:=zh (fun A (hA:Turned (fun _=>False) W A)=>lLimits_ok (h.on hA) he hn8 hm12)
 have HCL:=zh h.cl;have htl:(takesR rs cs hi).length=cs.length:=repL_len _ _;obtain⟨tl,htq⟩ : ∃t,takesR rs cs hi=t:=⟨_,rfl⟩;obtain⟨nr,hnr⟩ : ∃n,rs.length=n:=⟨_,rfl⟩;obtain⟨nl,hnl⟩ : ∃n,lo.length=n:=⟨_,rfl⟩;obtain⟨nh,hnh⟩ : ∃n,hi.length=n:=⟨_,rfl⟩;obtain⟨nc,hnc⟩ : ∃n,cs.length=n:=⟨_,rfl⟩;rw[hnr,hnl,hnh,hnc,htq] at HC;rw[htq] at htl;rw[hnc] at htl hm12;rw[hnr,hnl,hnh,htq];have HOL:Hid (ordersL cs tl=ordersTo cs tl nc):=zh (by unfold ordersL;rw[hnc])
 have HTL:=zh htl;have HNC:=zh hnc;rw[hnc,HOL.out];have hmx:(nc:Int)<=12:=by omega
 have T0:=zh (((zr W).alloc (.cells #[.slice rp nr rc,.slice lp nl lc,.slice hp nh hc] 25 (0,0))).alloc (.cells #[.slice none 0 0,.int .i64 0] 42 (0,0)));have n1:=zh (new_second W (.cells #[.slice rp nr rc,.slice lp nl lc,.slice hp nh hc] 25 (0,0)) (.cells #[.slice none 0 0,.int .i64 0] 42 (0,0)));clear h he hnr hnl hnh hnc hn8 hm12 htl htq;go_enter Tryz.func12,Tryz.ntmps12;go_wp2_with fail;refine(HC.out _ T0.out).mono ?_;rintro e w0 ⟨p1,c1,p2,c2,rfl,hfr,ha,hb,hsz,t1⟩;have HT0:=zh (T0.out.trans t1);have HB0:=zh (keepB t1 n1.out);have HTK:=zh hb;have HSZ:=zh hsz;clear t1 hfr ha hb hsz HC T0 n1;obtain⟨w1,hw1⟩ : ∃w,w=w0.alloc (.cells #[.slice p1 nc c1,.slice p2 nc c2,.int .i64 0] 37):=⟨_,rfl⟩;have HX0:=zh (show w1.heap[w0.heap.size]? = some (.cells #[.slice p1 nc c1,.slice p2 nc c2,.int .i64 0] 37 (0,0)) from by rw[hw1];exact World.alloc_heap_new _ _)
 have T1:=(zr w0).alloc (.cells #[.slice p1 nc c1,.slice p2 nc c2,.int .i64 0] 37);rw[<- hw1] at T1;have HT1:=zh (HT0.out.trans T1);have HB1:=zh (keepB T1 HB0.out);have HTK1:=zh (HTK.out.turned T1);have HN1:Hid (w1.heap.size<=w1.heap.size):=zh (Nat.le_refl _);clear T1 HT0 HB0 HTK;go_wp2_with fail;rw[<- hw1];clear hw1;obtain⟨X,hX⟩ : ∃X,w0.heap.size=X:=⟨_,rfl⟩;rw[hX] at HX0 ⊢;clear hX;obtain⟨y0,y1,y2,-,-,-⟩:=box3 HX0.out;go_wp2_with fail
 go_loopw [6,7] (fun v i wr=>∃(k:Nat) (p:Option Addr) (c:Nat),k<=nc/\i=(.int .i64 k)/\v=.slice p (ordersTo cs tl k).length c/\Hid (Grown wr w1.heap.size 70 4 orderCells (.slice p (ordersTo cs tl k).length c) (ordersTo cs tl k)/\Turned (fun _=>False) w1 wr)) (fun _ i _=>nc-(intOf i).toNat)
 case atStart=>exact⟨0,none,0,Nat.zero_le _,rfl,rfl,zh ⟨Grown.nil _ _ _ _ _,Turned.refl _ _⟩⟩
 case round =>
  clear y0 y1 y2;obtain⟨k,p,c,hk,rfl,rfl,HI⟩:=hrel;have HBX:=zh (keepB HI.out.2 HX0.out);obtain⟨d0,d1,d2,-,-,-⟩:=box3 HBX.out;by_cases hlt:k < nc
  ·have hx:cs[k]? = some (cs[k]'(by rw[HNC.out];exact hlt)):=List.getElem?_eq_getElem _
   obtain⟨⟨pl,rk,⟨un,ux,ud⟩⟩,hxe⟩ : ∃u,cs[k]'(by rw[HNC.out];exact hlt)=u:=⟨_,rfl⟩
   rw[hxe] at hx;have hy:tl[k]? = some (tl[k]'(by rw[HTL.out];exact hlt)):=List.getElem?_eq_getElem _
   obtain⟨⟨yn,yx,yd⟩,hye⟩ : ∃u,tl[k]'(by rw[HTL.out];exact hlt)=u:=⟨_,rfl⟩
   rw[hye] at hy;have HST:=zh (ordersTo_succ hx hy);obtain⟨b,a,rfl,-,e0,e1,e2,e3,e4⟩:=(HCL.out.turned (HT1.out.trans HI.out.2)).claims hx;obtain⟨gb,ga,rfl,-,g0,g1,g2⟩:=(HTK1.out.turned HI.out.2).rats hy;obtain⟨s,hs⟩ : ∃s,sameR ⟨yn,yx,yd⟩ ⟨un,ux,ud⟩=s:=⟨_,rfl⟩;rw[show(⟨pl,rk,⟨un,ux,ud⟩⟩ : Cl).amt=⟨un,ux,ud⟩ from rfl,hs] at HST;have hk0:(0:Int)<=k:=by omega
   have hk1:(k:Int) < nc:=by omega
   clear hx hxe hy hye e0 e1;have hlen:=ordersTo_len cs tl k;cases s
   ·replace HST:=zh (HST.out.trans (if_neg (by simp)))
    go_upto_region 8 with fail
    go_quiet (fail)
    have HTB:=zh (drewN_turned (fun _=>False) wr nq)
    have HBX2:=zh (keepB HTB.out HBX.out);obtain⟨x0,x1,x2,-,-,-⟩:=box3 HBX2.out;have g0:=cellT HTB.out id g0;have g1:=cellT HTB.out id g1;have g2:=cellT HTB.out id g2;have HG:=zh (HI.out.1.turned HTB.out fun _ h=>h.elim)
    have HZ:=zh (Nat.le_trans HN1.out (Nat.le_trans HI.out.2.size HTB.out.size));clear d0 d1 d2 e2 e3 e4;generalize wr.drewN nq=w2 at *;go_wp2_with (at_builtin;(refine app_order w2 rfl _ _ rfl (w1.heap.size) (.slice p (ordersTo cs tl k).length c) ⟨k,⟨yn,yx,yd⟩⟩ (ordersTo cs tl k) rfl rfl HG.out HZ.out (by omega) ?_);intro p' c' w4 ho4 ht4;have HS:=zh (And.intro ho4 ht4);clear ho4 ht4)
    go_roundw
    case rel=>exact⟨k+1,p',c',by omega,by go_num,by rw[HST.out];simp,zh ⟨by rw[HST.out];exact HS.out.1,(HI.out.2.trans HTB.out).fresh HS.out.2 fun g hg=>Nat.le_trans (by simp) hg⟩⟩
    case measure=>simp[intOf];omega
   ·replace HST:=zh (HST.out.trans (if_pos rfl))
    go_upto_region 8 with fail
    go_quiet (fail)
    have HTB:=zh (drewN_turned (fun _=>False) wr nq)
    have HBX2:=zh (keepB HTB.out HBX.out);obtain⟨x0,x1,x2,-,-,-⟩:=box3 HBX2.out;have g0:=cellT HTB.out id g0;have g1:=cellT HTB.out id g1;have g2:=cellT HTB.out id g2;have HG:=zh (HI.out.1.turned HTB.out fun _ h=>h.elim)
    have HZ:=zh (Nat.le_trans HN1.out (Nat.le_trans HI.out.2.size HTB.out.size));clear d0 d1 d2 e2 e3 e4;generalize wr.drewN nq=w2 at *;go_wp2_with fail
    go_roundw
    case rel=>exact⟨k+1,p,c,by omega,by go_num,by rw[HST.out],zh ⟨by rw[HST.out];exact HG.out,HI.out.2.trans HTB.out⟩⟩
    case measure=>simp[intOf];omega
  ·obtain rfl:k=nc:=by omega
   have HBR:=keepB HI.out.2 HB1.out;obtain⟨z0,z1,z2,z3⟩:=box2' HBR;go_wp2_with fail;have HK:=set2' HBR (.slice p (ordersTo cs tl k).length c) (.int .i64 0);refine bodyPost_ret (results_lOrders _ _ (W.heap.size+1) _ _ rfl HK.1) rfl ?_;have hsz:=getElem?_lt HB1.out;refine⟨p,c,rfl,fun b a s h=>?_,?_,fun u hu=>HSZ.out u (Or.inr hu),(HT1.out.trans HI.out.2).fresh HK.2 fun g hg=>by omega⟩
   ·have:=(ownsRow_block HI.out.1 b (by rw[h];rfl)).1
    omega
   ·exact(HI.out.1.turned HK.2 fun g hg=>by omega).at_ (fun _=>rfl) (Nat.le_refl _)
theorem lSure_bad(h:OIn W rs lo hi cs rp lp hp cp rc lc hc cc) {ev:Int} (he:ordE rs lo hi cs=ev) (h0:ev≠0) :
  Calls Tryz.prog 14 #[.agg #[.slice rp rs.length rc,.slice lp lo.length lc,.slice hp hi.length hc],.slice cp cs.length cc] W fun e w'=>e=.returned (.agg #[.slice none 0 0,.int .i64 ev])/\Turned (fun _=>False) W w':=by
 have HC:=zh (fun A (hA:Turned (fun _=>False) W A)=>lLimits_bad (h.on hA) he h0)
 obtain⟨nr,hnr⟩ : ∃n,rs.length=n:=⟨_,rfl⟩;obtain⟨nl,hnl⟩ : ∃n,lo.length=n:=⟨_,rfl⟩;obtain⟨nh,hnh⟩ : ∃n,hi.length=n:=⟨_,rfl⟩;obtain⟨nc,hnc⟩ : ∃n,cs.length=n:=⟨_,rfl⟩;rw[hnr,hnl,hnh,hnc] at HC ⊢;have g2:(ev == 0)=false:=by simpa using h0
 have g3:(ev != 0)=true:=by simpa using h0
 have T0:=zh (((zr W).alloc (.cells #[.slice rp nr rc,.slice lp nl lc,.slice hp nh hc] 25 (0,0))).alloc (.cells #[.slice none 0 0,.int .i64 0] 48 (0,0)));have n1:=zh (new_second W (.cells #[.slice rp nr rc,.slice lp nl lc,.slice hp nh hc] 25 (0,0)) (.cells #[.slice none 0 0,.int .i64 0] 48 (0,0)));clear h he h0 hnr hnl hnh hnc;go_enter Tryz.func14,Tryz.ntmps14;go_wp2_with fail;refine(HC.out _ T0.out).mono ?_;rintro e w1 ⟨rfl,t1⟩;have HT1:=zh ((T0.out.trans t1).alloc (.cells #[.slice none 0 0,.slice none 0 0,.int .i64 ev] 37 (0,0)));have HB:=zh (keepB ((zr w1).alloc (.cells #[.slice none 0 0,.slice none 0 0,.int .i64 ev] 37 (0,0))) (keepB t1 n1.out));obtain⟨y0,y1,y2,y3⟩:=box2' HB.out;clear t1;go_wp2_with fail;have HK:=set2' HB.out (.slice none 0 0) (.int .i64 ev);refine bodyPost_ret (results_lSure _ _ (W.heap.size+1) _ _ rfl HK.1) rfl ?_;exact⟨rfl,HT1.out.fresh HK.2 fun g hg=>by omega⟩
theorem lSure_ok(h:OIn W rs lo hi cs rp lp hp cp rc lc hc cc) (he:ordE rs lo hi cs=0) (hn8:rs.length<=8) (hm12:cs.length<=12) :
  Calls Tryz.prog 14 #[.agg #[.slice rp rs.length rc,.slice lp lo.length lc,.slice hp hi.length hc],.slice cp cs.length cc] W fun e w'=>∃p c,e=.returned (.agg #[.slice p (sureL cs (takesR rs cs lo)).length c,.int .i64 0]) /\
   (∀b a s,p=some ⟨b,a,s⟩->W.heap.size<=b)/\At w'.heap.size w' 1 intCells (sureL cs (takesR rs cs lo)) p c/\(∀u∈takesR rs cs lo,SzR u 2920300)/\Turned (fun _=>False) W w':=by
 have HC:=zh (fun A (hA:Turned (fun _=>False) W A)=>lLimits_ok (h.on hA) he hn8 hm12)
 have HCL:=zh h.cl;have htl:(takesR rs cs lo).length=cs.length:=repL_len _ _;obtain⟨tl,htq⟩ : ∃t,takesR rs cs lo=t:=⟨_,rfl⟩;obtain⟨nr,hnr⟩ : ∃n,rs.length=n:=⟨_,rfl⟩;obtain⟨nl,hnl⟩ : ∃n,lo.length=n:=⟨_,rfl⟩;obtain⟨nh,hnh⟩ : ∃n,hi.length=n:=⟨_,rfl⟩;obtain⟨nc,hnc⟩ : ∃n,cs.length=n:=⟨_,rfl⟩;rw[hnr,hnl,hnh,hnc,htq] at HC;rw[htq] at htl;rw[hnc] at htl hm12;rw[hnr,hnl,hnh,htq];have HOL:Hid (sureL cs tl=sureTo cs tl nc):=zh (by unfold sureL;rw[hnc])
 have HTL:=zh htl;have HNC:=zh hnc;rw[hnc,HOL.out];have hmx:(nc:Int)<=12:=by omega
 have T0:=zh (((zr W).alloc (.cells #[.slice rp nr rc,.slice lp nl lc,.slice hp nh hc] 25 (0,0))).alloc (.cells #[.slice none 0 0,.int .i64 0] 48 (0,0)));have n1:=zh (new_second W (.cells #[.slice rp nr rc,.slice lp nl lc,.slice hp nh hc] 25 (0,0)) (.cells #[.slice none 0 0,.int .i64 0] 48 (0,0)));clear h he hnr hnl hnh hnc hn8 hm12 htl htq;go_enter Tryz.func14,Tryz.ntmps14;go_wp2_with fail;refine(HC.out _ T0.out).mono ?_;rintro e w0 ⟨p1,c1,p2,c2,rfl,hfr,ha,hb,hsz,t1⟩;have HT0:=zh (T0.out.trans t1);have HB0:=zh (keepB t1 n1.out);have HTK:=zh ha;have HSZ:=zh hsz;clear t1 hfr ha hb hsz HC T0 n1;obtain⟨w1,hw1⟩ : ∃w,w=w0.alloc (.cells #[.slice p1 nc c1,.slice p2 nc c2,.int .i64 0] 37):=⟨_,rfl⟩;have HX0:=zh (show w1.heap[w0.heap.size]? = some (.cells #[.slice p1 nc c1,.slice p2 nc c2,.int .i64 0] 37 (0,0)) from by rw[hw1];exact World.alloc_heap_new _ _)
 have T1:=(zr w0).alloc (.cells #[.slice p1 nc c1,.slice p2 nc c2,.int .i64 0] 37);rw[<- hw1] at T1;have HT1:=zh (HT0.out.trans T1);have HB1:=zh (keepB T1 HB0.out);have HTK1:=zh (HTK.out.turned T1);have HN1:Hid (w1.heap.size<=w1.heap.size):=zh (Nat.le_refl _);clear T1 HT0 HB0 HTK;go_wp2_with fail;rw[<- hw1];clear hw1;obtain⟨X,hX⟩ : ∃X,w0.heap.size=X:=⟨_,rfl⟩;rw[hX] at HX0 ⊢;clear hX;obtain⟨y0,y1,y2,-,-,-⟩:=box3 HX0.out;go_wp2_with fail
 go_loopw [6,7] (fun v i wr=>∃(k:Nat) (p:Option Addr) (c:Nat),k<=nc/\i=(.int .i64 k)/\v=.slice p (sureTo cs tl k).length c/\Hid (Grown wr w1.heap.size 3 1 intCells (.slice p (sureTo cs tl k).length c) (sureTo cs tl k)/\Turned (fun _=>False) w1 wr)) (fun _ i _=>nc-(intOf i).toNat)
 case atStart=>exact⟨0,none,0,Nat.zero_le _,rfl,rfl,zh ⟨Grown.nil _ _ _ _ _,Turned.refl _ _⟩⟩
 case round =>
  clear y0 y1 y2;obtain⟨k,p,c,hk,rfl,rfl,HI⟩:=hrel;have HBX:=zh (keepB HI.out.2 HX0.out);obtain⟨d0,d1,d2,-,-,-⟩:=box3 HBX.out;by_cases hlt:k < nc
  ·have hx:cs[k]? = some (cs[k]'(by rw[HNC.out];exact hlt)):=List.getElem?_eq_getElem _
   obtain⟨⟨pl,rk,⟨un,ux,ud⟩⟩,hxe⟩ : ∃u,cs[k]'(by rw[HNC.out];exact hlt)=u:=⟨_,rfl⟩
   rw[hxe] at hx;have hy:tl[k]? = some (tl[k]'(by rw[HTL.out];exact hlt)):=List.getElem?_eq_getElem _
   obtain⟨⟨yn,yx,yd⟩,hye⟩ : ∃u,tl[k]'(by rw[HTL.out];exact hlt)=u:=⟨_,rfl⟩
   rw[hye] at hy;have HST:=zh (sureTo_succ hx hy);obtain⟨b,a,rfl,-,e0,e1,e2,e3,e4⟩:=(HCL.out.turned (HT1.out.trans HI.out.2)).claims hx;obtain⟨gb,ga,rfl,-,g0,g1,g2⟩:=(HTK1.out.turned HI.out.2).rats hy;obtain⟨s,hs⟩ : ∃s,sameR ⟨yn,yx,yd⟩ ⟨un,ux,ud⟩=s:=⟨_,rfl⟩;rw[show(⟨pl,rk,⟨un,ux,ud⟩⟩ : Cl).amt=⟨un,ux,ud⟩ from rfl,hs] at HST;have hk0:(0:Int)<=k:=by omega
   have hk1:(k:Int) < nc:=by omega
   clear hx hxe hy hye e0 e1;have hlen:=sureTo_len cs tl k;cases s
   ·replace HST:=zh (HST.out.trans (if_neg (by simp)))
    go_upto_region 8 with fail
    go_quiet (fail)
    have HTB:=zh (drewN_turned (fun _=>False) wr nq)
    have HBX2:=zh (keepB HTB.out HBX.out);obtain⟨x0,x1,x2,-,-,-⟩:=box3 HBX2.out;have g0:=cellT HTB.out id g0;have g1:=cellT HTB.out id g1;have g2:=cellT HTB.out id g2;have HG:=zh (HI.out.1.turned HTB.out fun _ h=>h.elim)
    have HZ:=zh (Nat.le_trans HN1.out (Nat.le_trans HI.out.2.size HTB.out.size));clear d0 d1 d2 e2 e3 e4;generalize wr.drewN nq=w2 at *;go_wp2_with fail
    go_roundw
    case rel=>exact⟨k+1,p,c,by omega,by go_num,by rw[HST.out],zh ⟨by rw[HST.out];exact HG.out,HI.out.2.trans HTB.out⟩⟩
    case measure=>simp[intOf];omega
   ·replace HST:=zh (HST.out.trans (if_pos rfl))
    go_upto_region 8 with fail
    go_quiet (fail)
    have HTB:=zh (drewN_turned (fun _=>False) wr nq)
    have HBX2:=zh (keepB HTB.out HBX.out);obtain⟨x0,x1,x2,-,-,-⟩:=box3 HBX2.out;have g0:=cellT HTB.out id g0;have g1:=cellT HTB.out id g1;have g2:=cellT HTB.out id g2;have HG:=zh (HI.out.1.turned HTB.out fun _ h=>h.elim)
    have HZ:=zh (Nat.le_trans HN1.out (Nat.le_trans HI.out.2.size HTB.out.size));clear d0 d1 d2 e2 e3 e4;generalize wr.drewN nq=w2 at *;go_wp2_with (at_builtin;(refine app_int w2 rfl _ _ rfl (w1.heap.size) (.slice p (sureTo cs tl k).length c) (k:Int) (sureTo cs tl k) rfl rfl HG.out HZ.out (by omega) ?_);intro p' c' w4 ho4 ht4;have HS:=zh (And.intro ho4 ht4);clear ho4 ht4)
    go_roundw
    case rel=>exact⟨k+1,p',c',by omega,by go_num,by rw[HST.out];simp,zh ⟨by rw[HST.out];exact HS.out.1,(HI.out.2.trans HTB.out).fresh HS.out.2 fun g hg=>Nat.le_trans (by simp) hg⟩⟩
    case measure=>simp[intOf];omega
  ·obtain rfl:k=nc:=by omega
   have HBR:=keepB HI.out.2 HB1.out;obtain⟨z0,z1,z2,z3⟩:=box2' HBR;go_wp2_with fail;have HK:=set2' HBR (.slice p (sureTo cs tl k).length c) (.int .i64 0);refine bodyPost_ret (results_lSure _ _ (W.heap.size+1) _ _ rfl HK.1) rfl ?_;have hsz:=getElem?_lt HB1.out;refine⟨p,c,rfl,fun b a s h=>?_,?_,fun u hu=>HSZ.out u (Or.inl hu),(HT1.out.trans HI.out.2).fresh HK.2 fun g hg=>by omega⟩
   ·have:=(ownsRow_block HI.out.1 b (by rw[h];rfl)).1
    omega
   ·exact(HI.out.1.turned HK.2 fun g hg=>by omega).at_ (fun _=>rfl) (Nat.le_refl _)
end
end Go.Proofs.YtanhhdndgkhcfaaGreatDoor
