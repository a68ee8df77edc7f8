import Derived.Test.YtpoafhgbhnblmaaGreatDoorF23
set_option linter.unusedVariables false
set_option linter.unusedSimpArgs false
set_option maxRecDepth 100000
set_option maxHeartbeats 20000000
namespace Go.Proofs.YtpoafhgbhnblmaaGreatDoor
open Go.Proofs.Tryz (prog)
open Go.RowKit
theorem SS(jv ng:List ByteArray→Option (List BkT))(d:Nat)(hd:d≤15)(zs:List ByteArray)(A:Option Addr)(c i B:Nat)(MM:Int)(A9:Option Addr)(c9:Nat)(af:Option Addr)(c10:Nat)(w:World)(h1:uk jv (d+1) MM)(h2:d+1≤15→uk ng (d+2) MM)(hL:aG w A zs MM)(hi:i<zs.length)(hb:aF (ln zs i)=false)(hc:zs.length≤c)(hcm:c≤maxLen)(hB:B≤w.heap.size)(ha:aW w (Rg B w) (ai (ln zs i)).att A9 af) :
 Calls prog 39 #[.slice A zs.length c,.int .i64 i,.agg ((ai (ln zs i)).cells (.slice A9 (ai (ln zs i)).att.cl.length c9) (.slice af (ai (ln zs i)).att.pr.length c10)),.int .i64 d] w
  (iE B (iM jv ng (decide (d+1≤15)) (decide (d+2≤15)) zs i (ai (ln zs i))) w):=by
 have hk:=(KE (ln zs i)).2 hb;have hls:=dh hL.sz i;have hoff:(ai (ln zs i)).off≤1000000:=aev (Dj (ln zs i)).2 (by omega);have hok:(ai (ln zs i)).kind=5∨(ai (ln zs i)).kind=6→lZ (ai (ln zs i)):=Gv (ln zs i) hls;have abb:(ai (ln zs i)).kind=10→lZ (ai (ln zs i)):=fun h=>⟨hoff,aev (Gg (ln zs i) (by omega)).1 hls,fun e=>by omega⟩;generalize ai (ln zs i)=m at *;unfold iM;by_cases e2:m.kind=2
 ·rw[if_pos e2];exact aa3 d hd zs A c i B MM m A9 c9 af c10 w hL hi hc hcm hB ha e2
 rw[if_neg e2];by_cases e3:m.kind=3
 ·rw[if_pos e3];exact aaW d hd zs A c i B MM m A9 c9 af c10 w hL hi hc hcm hB ha e3
 rw[if_neg e3];by_cases e11:m.kind=11
 ·rw[if_pos e11];exact aaX d hd zs A c i B MM m A9 c9 af c10 w hL hi hc hcm hB ha e11
 rw[if_neg e11];by_cases e4:m.kind=4
 ·rw[if_pos e4];exact aaY jv d hd zs A c i B MM m A9 c9 af c10 w hL hi hc hcm hB ha e4 h1
 rw[if_neg e4];by_cases e7:m.kind=7
 ·rw[if_pos e7];exact aaZ d hd zs A c i B MM m A9 c9 af c10 w hL hi hc hcm hB ha e7 hoff
 rw[if_neg e7];by_cases e8:m.kind=8
 ·rw[if_pos e8];exact aa4 d hd zs A c i B MM m A9 c9 af c10 w hL hi hc hcm hB ha e8
 rw[if_neg e8];by_cases e9:m.kind=9
 ·rw[if_pos e9];exact aa0 jv d hd zs A c i B MM m A9 c9 af c10 w hL hi hc hcm hB ha e9 h1
 rw[if_neg e9];by_cases e10:m.kind=10
 ·rw[if_pos e10];exact aa2 jv d hd zs A c i B MM m A9 c9 af c10 w hL hi hc hcm hB ha e10 h1 (abb e10)
 rw[if_neg e10];by_cases e56:m.kind=5∨m.kind=6
 ·rw[if_pos e56];exact aa1 ng d hd zs A c i B MM m A9 c9 af c10 w hL hi hc hcm hB ha e56 h2 (hok e56)
 rw[if_neg e56];have e0:m.kind=0:=by omega
 by_cases hh:gZ zs i=true
 ·rw[if_pos hh];exact aa6 d hd zs A c i B MM m A9 c9 af c10 w hL hi hc hcm hB ha e0 hh
 ·rw[if_neg hh];exact aa7 d hd zs A c i B MM m A9 c9 af c10 w hL hi hc hcm hB ha e0 (by simpa using hh)
def SV(n:Nat):Prop:=∀(d:Nat),n+d=16→∀(zs:List ByteArray) (A:Option Addr) (c:Nat) (MM:Int) (w:World),aG w A zs MM→zs.length≤c→c≤maxLen→Calls prog 30 #[.slice A zs.length c,.int .i64 d] w (D7 (bg n zs) w)
theorem LP(n d:Nat)(hnd:n+d=16)(MM:Int)(h:SV n):uk (fun l=>(bg n l).map (·.1)) d MM:=fun zs A c W hL hc hcm=>(h d hnd zs A c MM W hL hc hcm).mono fun e w' hp=>by
 obtain⟨hb,hp⟩:=hp;refine⟨?_,hb⟩;cases hr:bg n zs with
 |none=>rw[hr] at hp;simp only[hr,Option.map_none];exact hp
 |some p=>
  rw[hr] at hp;obtain⟨v,A2,c2,rfl,hk,_,_⟩:=hp;obtain⟨A1,c1,vs,rfl,h1,h2⟩:=hk;simp only[hr,Option.map_some];exact⟨A1,c1,A2,_,c2,rfl,A1,c1,vs,rfl,h1,h2⟩
theorem abd:∀n,SV n:=by
 intro n;induction n using Nat.strongRecOn with
 |ind n ih=>
  intro d hnd zs A c MM w hL hc hcm;refine aa8 n d hnd zs A c MM w hL ?_;intro hn0 i B W A9 c9 af c10 hi hb hB eH ha;match n,hn0,hnd,ih with
  |0,hn0,hnd,ih=>
   exact absurd rfl hn0
  |1,hn0,hnd,ih=>
   have hd:d=15:=by omega
   subst hd;rw[KQ];have:=SS (fun l=>(bg 0 l).map (·.1)) (fun _=>none) 15 (by omega) zs A c i B MM A9 c9 af c10 W (LP 0 16 rfl MM (ih 0 (by omega))) (fun h=>absurd h (by omega)) eH hi hb hc hcm hB ha;exact this
  |n+2,hn0,hnd,ih=>
   rw[KT];have e1:decide (d+1≤15)=true:=aeq (by omega);have e2:decide (d+2≤15)=decide (1≤n):=decide_eq_decide.2 (by omega);have:=SS (fun l=>(bg (n+1) l).map (·.1)) (fun l=>(bg n l).map (·.1)) d (by omega) zs A c i B MM A9 c9 af c10 W (LP (n+1) (d+1) (by omega) MM (ih (n+1) (by omega))) (fun _=>LP n (d+2) (by omega) MM (ih n (by omega))) eH hi hb hc hcm hB ha;rw[e1,e2] at this;exact this
theorem SX(zs:List ByteArray)(A:Option Addr)(c:Nat)(MM:Int)(w:World)(hL:aG w A zs MM)(hc:zs.length≤c)(hcm:c≤maxLen) :
 Calls prog 22 #[.slice A zs.length c] w (D7 (bg 16 zs) w):=by
 have hlen:=hL.len;have HB:Hid (Calls prog 30 #[.slice A zs.length c,.int .i64 0] w (D7 (bg 16 zs) w)):=aen (abd 16 0 rfl zs A c MM w hL hc hcm);have d1:decide (16384<(zs.length:Int))=false:=aep (by omega);have d2:decide (16384<zs.length)=false:=aep (by omega);obtain⟨R,hR⟩:∃R,R=bg 16 zs:=⟨_,rfl⟩;rw[←hR] at HB ⊢;clear hL hR;go_enter Tryz.func22,Tryz.ntmps22;go_wp2_with fail;with_reducible refine(HB.out).mono ?_
 rintro e w1 ⟨b1,hp⟩;have HB1:=aen b1;cases R with
 |none=>
  subst hp;unfold qG;go_wp2_with fail;go_ret3;exact⟨HB1.out,rfl⟩
 |some p=>
  obtain⟨v,A2,c2,rfl,hk,hr,A',c',hcv,hcc⟩:=hp;have HK:=aen hk;have HR:=aen hr;obtain⟨A1,c1,vs,rfl,_,_⟩:=hk;have hcap:p.1.length≤c1:=by injection hcv with _ _ e;rw[e];exact hcc
  clear hcv hcc;clear hr;go_wp2_with fail;go_ret3;exact⟨HB1.out,_,_,_,rfl,HK.out,HR.out,_,_,rfl,hcap⟩
def zf(r:Option (List BkT × List (Nat × Nat)))(w:World)(e:Ending)(w':World):Prop:=
 Below w.heap.size w w'∧match r with
 |none=>e=.returned (.tuple #[.slice none 0 0,.int .i64 11])
 |some p=>∃A c,e=.returned (.tuple #[.slice A p.1.length c,.int .i64 0])∧bP w' (Rg w.heap.size w') (.slice A p.1.length c) p.1∧p.1.length≤c
def zg(r:Option (List BkT × List (Nat × Nat)))(w:World)(e:Ending)(w':World):Prop:=
 Below w.heap.size w w'∧match r with
 |none=>e=.returned (.tuple #[.slice none 0 0,.int .i64 11])
 |some p=>∃A c,e=.returned (.tuple #[.slice A p.2.length c,.int .i64 0])∧ReadsS w' (Rg w.heap.size w') 2 A p.2.length (qF p.2)
theorem SY(zs:List ByteArray)(A:Option Addr)(c:Nat)(MM:Int)(w:World)(hL:aG w A zs MM)(hc:zs.length≤c)(hcm:c≤maxLen) :
 Calls prog 12 #[.slice A zs.length c] w (zf (bg 16 zs) w):=by
 have HB:=aen (SX zs A c MM w hL hc hcm);obtain⟨R,hR⟩:∃R,R=bg 16 zs:=⟨_,rfl⟩;rw[←hR] at HB ⊢;clear hL hR;go_enter Tryz.func12,Tryz.ntmps12;go_wp2_with fail;with_reducible refine(HB.out).mono ?_
 rintro e w1 ⟨b1,hp⟩;have HB1:=aen b1;cases R with
 |none=>
  subst hp;unfold qG;go_wp2_with fail;go_ret2;exact⟨HB1.out,rfl⟩
 |some p=>
  obtain⟨v,A2,c2,rfl,hk,hr,A',c',hcv,hcc⟩:=hp;have HK:=aen hk;obtain⟨A1,c1,vs,rfl,_,_⟩:=hk;have hcap:p.1.length≤c1:=by injection hcv with _ _ e;rw[e];exact hcc
  clear hcv hcc;clear hr;go_wp2_with fail;go_ret2;exact⟨HB1.out,_,_,rfl,HK.out,hcap⟩
theorem S7(zs:List ByteArray)(A:Option Addr)(c:Nat)(MM:Int)(w:World)(hL:aG w A zs MM)(hc:zs.length≤c)(hcm:c≤maxLen) :
 Calls prog 15 #[.slice A zs.length c] w (zg (bg 16 zs) w):=by
 have HB:=aen (SX zs A c MM w hL hc hcm);obtain⟨R,hR⟩:∃R,R=bg 16 zs:=⟨_,rfl⟩;rw[←hR] at HB ⊢;clear hL hR;go_enter Tryz.func15,Tryz.ntmps15;go_wp2_with fail;with_reducible refine(HB.out).mono ?_
 rintro e w1 ⟨b1,hp⟩;have HB1:=aen b1;cases R with
 |none=>
  subst hp;unfold qG;go_wp2_with fail;go_ret2;exact⟨HB1.out,rfl⟩
 |some p=>
  obtain⟨v,A2,c2,rfl,hk,hr,A',c',hcv,hcc⟩:=hp;have HR:=aen hr;obtain⟨A1,c1,vs,rfl,_,_⟩:=hk;have hcap:p.1.length≤c1:=by injection hcv with _ _ e;rw[e];exact hcc
  clear hcv hcc;clear hr;go_wp2_with fail;go_ret2;exact⟨HB1.out,_,_,rfl,HR.out⟩
theorem GR{W:World}{g:Nat}{x y z:Value}{P:Ending→World→Prop}{act:Act}(hr:ae W g 179 #[x,y,z])(h4:act.tmps.getD 4 undef=.pointer (some ⟨g,0,none⟩))
 (hd:act.defers=[]) (hP:P (.returned (.agg #[x,y,z])) W):bodyPost prog Tryz.f186 P Exit.ret act W:=by
 have c0:W.cell? ⟨g,0,none⟩=some x:=hr.cell 0;have c1:W.cell? ⟨g,1,none⟩=some y:=hr.cell 1;have c2:W.cell? ⟨g,2,none⟩=some z:=hr.cell 2;refine bodyPost_ret (v:=.agg #[x,y,z]) ?_ hd hP;rw[aew] at h4;simp[results,Tryz.results186,go_sem,h4,c0,c1,c2]
theorem AV{W:World}{g:Nat}{x y z:Value}{P:Ending→World→Prop}{act:Act}(hr:ae W g 179 #[x,y,z])(h4:act.tmps.getD 4 undef=.pointer (some ⟨g,0,none⟩))
 (hd:act.defers=[]) (hP:P (.returned (.agg #[x,y,z])) W):bodyPost prog Tryz.f185 P Exit.ret act W:=by
 have c0:W.cell? ⟨g,0,none⟩=some x:=hr.cell 0;have c1:W.cell? ⟨g,1,none⟩=some y:=hr.cell 1;have c2:W.cell? ⟨g,2,none⟩=some z:=hr.cell 2;refine bodyPost_ret (v:=.agg #[x,y,z]) ?_ hd hP;rw[aew] at h4;simp[results,Tryz.results185,go_sem,h4,c0,c1,c2]
def Z3(W:World)(g:Nat):Prop:=ae W g 179 #[.string ⟨#[]⟩,.int .i64 0,.bool false]
theorem Z3.facts{W:World}{g:Nat}(h:Z3 W g):W.cell? ⟨g,0,none⟩=some (.string ⟨#[]⟩)∧W.cell? ⟨g,1,none⟩=some (.int .i64 0)∧W.cell? ⟨g,2,none⟩=some (.bool false)∧W.frozen? ⟨g,0,none⟩=false∧W.frozen? ⟨g,1,none⟩=false∧W.frozen? ⟨g,2,none⟩=false:=
 ⟨h.cell 0,h.cell 1,h.cell 2,h.frozen 0,h.frozen 1,h.frozen 2⟩
theorem abe(s:ByteArray)(i:Int)(w:World)(hs:s.size≤1000000)(h:¬(0≤i∧i<s.size)) :
 Calls prog 186 #[.string s,.int .i64 i] w (jO (dD s i) w):=by
 have HR:Hid (dD s i=none):=aen (by unfold dD;rw[if_neg h]);generalize dD s i=R at *;by_cases h0:i<0
 ·have d0:decide (i<0)=true:=by simpa using h0
  go_enter Tryz.func186,Tryz.ntmps186;go_wp2;exact GR (ae.new _ _ _) rfl rfl (oW HR.out ((aer _ _).alloc (aeo _) _))
 ·have d1:decide ((s.size:Int)≤i)=true:=by simp;omega
  go_enter Tryz.func186,Tryz.ntmps186;go_wp2;exact GR (ae.new _ _ _) rfl rfl (oW HR.out ((aer _ _).alloc (aeo _) _))
theorem abf(s:ByteArray)(i:Nat)(w:World)(hs:s.size≤1000000)(hi:i<s.size) :
 Calls prog 186 #[.string s,.int .i64 i] w (jO (dD s i) w):=by
 have zi:decide ((i:Int)<0)=false:=by simp
 have zj:decide (s.size≤i)=false:=by simp;omega
 have hlt2:((s[i].toNat:Nat):Int)<256:=by rw[get_bt s i hi];have:=aK s i;omega
 have hR:dD s i=if bt s i=34 then dY s i 34 34 else if bt s i=39 then dY s i 39 39 else none:=by unfold dD;rw[if_pos ⟨by omega,by omega⟩,Int.toNat_natCast]
 have HR:=aen hR;clear hR;generalize dD s i=R at *;by_cases c1:bt s i=34∨bt s i=39
 ·have HC:Hid (∀W,Calls prog 224 #[.string s,.int .i64 i,.int .u8 ((s[i].toNat:Nat):Int),.int .u8 ((s[i].toNat:Nat):Int)] W (jO R W)):=aen fun W=>by
   rw[get_bt s i hi,HR.out];rcases c1 with c|c
   ·rw[if_pos c,c];exact JE s i 34 34 W hs hi (by decide) (by decide)
   ·rw[if_neg (by omega),if_pos c,c];exact JE s i 39 39 W hs hi (by decide) (by decide)
  have cc:(((s[i].toNat:Nat):Int) != 34)=false∨((((s[i].toNat:Nat):Int) != 34)=true∧(((s[i].toNat:Nat):Int) != 39)=false):=by
   rw[get_bt s i hi];rcases c1 with c|c
   ·left;rw[c];rfl
   ·right;rw[c];exact⟨rfl,rfl⟩
  clear c1 HR;have HB0:Hid (∀n,Z3 ((w.alloc (.cells #[.string ⟨#[]⟩,.int .i64 0,.bool false] 179)).drewN n) w.heap.size):=aen fun n=>(ae.new w _ _).drewN n;rcases cc with z1|⟨z1,z2⟩;all_goals
   cases R;all_goals
    go_enter Tryz.func186,Tryz.ntmps186;go_wp2_with fail;go_still_tail 8,(by kernel_rfl);go_wp2_with fail;with_reducible refine(HC.out _).mono ?_
    rintro e w1 ⟨he,b1⟩;dsimp only [iZ] at he;subst he;have HB1:=aen (show Z3 w1 w.heap.size from ae.below (HB0.out 1) b1 (by simp));obtain⟨c0,c1,c2,f0,f1,f2⟩:=Z3.facts HB1.out;go_wp2;exact GR (fZ HB1.out rfl _ _ _) rfl rfl ⟨rfl,below3 (Ob (n:=1) b1) (aeo _) _ _ _⟩
 ·have z1:(((s[i].toNat:Nat):Int) != 34)=true:=by rw[get_bt s i hi];simp;omega
  have z2:(((s[i].toNat:Nat):Int) != 39)=true:=by rw[get_bt s i hi];simp;omega
  have HN:Hid (R=none):=aen (by rw[HR.out,if_neg (by omega),if_neg (by omega)]);clear c1 HR;go_enter Tryz.func186,Tryz.ntmps186;go_wp2;exact GR (ae.new _ _ _) rfl rfl (oW HN.out ((aer _ _).alloc (aeo _) _))
theorem abg(s:ByteArray)(i:Int)(w:World)(hs:s.size≤1000000) :
 Calls prog 186 #[.string s,.int .i64 i] w (jO (dD s i) w):=by
 by_cases h:0≤i∧i<s.size
 ·obtain⟨k,rfl⟩:=Int.eq_ofNat_of_zero_le h.1;exact abf s k w hs (by have:=h.2;omega)
 ·exact abe s i w hs h
theorem abh(s:ByteArray)(i:Int)(w:World)(hs:s.size≤1000000)(h:¬(0≤i∧i<s.size)) :
 Calls prog 185 #[.string s,.int .i64 i] w (jO (bI s i) w):=by
 have HR:Hid (bI s i=none):=aen (by unfold bI;rw[if_neg h]);generalize bI s i=R at *;by_cases h0:i<0
 ·have d0:decide (i<0)=true:=by simpa using h0
  go_enter Tryz.func185,Tryz.ntmps185;go_wp2;exact AV (ae.new _ _ _) rfl rfl (oW HR.out ((aer _ _).alloc (aeo _) _))
 ·have d1:decide ((s.size:Int)≤i)=true:=by simp;omega
  go_enter Tryz.func185,Tryz.ntmps185;go_wp2;exact AV (ae.new _ _ _) rfl rfl (oW HR.out ((aer _ _).alloc (aeo _) _))
theorem abj(s:ByteArray)(i:Nat)(w:World)(hs:s.size≤1000000)(hi:i<s.size)(h:bt s i=60) :
 Calls prog 185 #[.string s,.int .i64 i] w (jO (bI s i) w):=by
 have HC:Hid (∀W,Calls prog 224 #[.string s,.int .i64 i,.int .u8 62,.int .u8 60] W (jO (bI s i) W)):=aen fun W=>by
  have e:bI s i=dY s i 62 60:=by unfold bI;rw[if_pos ⟨by omega,by omega⟩,Int.toNat_natCast,if_pos h]
  rw[e];exact JE s i 62 60 W hs hi (by decide) (by decide)
 generalize bI s i=R at *;have z0:(((s[i].toNat:Nat):Int)==60)=true:=by rw[get_bt s i hi,h];rfl
 have zi:decide ((i:Int)<0)=false:=by simp
 have zj:decide (s.size≤i)=false:=by simp;omega
 clear h;have HB0:Hid (∀n,Z3 ((w.alloc (.cells #[.string ⟨#[]⟩,.int .i64 0,.bool false] 179)).drewN n) w.heap.size):=aen fun n=>(ae.new w _ _).drewN n;cases R;all_goals
  go_enter Tryz.func185,Tryz.ntmps185;go_wp2_with fail;with_reducible refine(HC.out _).mono ?_
  rintro e w1 ⟨he,b1⟩;dsimp only [iZ] at he;subst he;have HB1:=aen (show Z3 w1 w.heap.size from ae.below (HB0.out 0) b1 (by simp));obtain⟨c0,c1,c2,f0,f1,f2⟩:=Z3.facts HB1.out;go_wp2;exact AV (fZ HB1.out rfl _ _ _) rfl rfl ⟨rfl,below3 (Ob (n:=0) b1) (aeo _) _ _ _⟩
def abk(s:ByteArray)(i:Nat)(w:World)(a b:Value)(wr:World):Prop:=
 ∃o k:Nat,o≤8∧i≤k∧k≤s.size∧a=.int .i64 k∧b=.int .i64 o∧Hid (bM s o k=bM s 0 i)∧Z3 wr w.heap.size∧Below w.heap.size w wr
theorem abl(s:ByteArray)(i:Nat)(w:World)(hs:s.size≤1000000)(hi:i<s.size)(h:bt s i≠60) :
 Calls prog 185 #[.string s,.int .i64 i] w (jO (bI s i) w):=by
 have e:bI s i=(bM s 0 i).bind fun k=>if k=i then none else some (bK (sub s i k),k):=by unfold bI;rw[if_pos ⟨by omega,by omega⟩,Int.toNat_natCast,if_neg h]
 have HS:Hid (∀k,k≠i→bM s 0 i=some k→bI s i=some (bK (sub s i k),k)):=aen fun k hk hd=>by rw[e,hd];exact if_neg hk
 have HN:Hid (bM s 0 i=none→bI s i=none):=aen fun hd=>by rw[e,hd];rfl
 have HI:Hid (bM s 0 i=some i→bI s i=none):=aen fun hd=>by rw[e,hd];exact if_pos rfl
 clear e;generalize bI s i=R at *;have z0:(((s[i].toNat:Nat):Int)==60)=false:=by rw[get_bt s i hi,aes];omega
 have zi:decide ((i:Int)<0)=false:=by simp
 have zj:decide (s.size≤i)=false:=by simp;omega
 clear h;go_enter Tryz.func185,Tryz.ntmps185;go_wp2;go_loopw [5,6] (fun a b wr=>abk s i w a b wr) (fun a _ _=>s.size - (intOf a).toNat);case atStart=>exact⟨0,i,by omega,by omega,by omega,rfl,rfl,aen rfl,ae.new _ _ _,(aer _ _).alloc (aeo _) _⟩
 case round=>
  obtain⟨o,k,ho,hk1,hk,rfl,rfl,Hk,hB,hbw⟩:=hrel;have hz:=hbw.size;have HB:=aen hB;have hgl:=hB.lt;clear hB;by_cases hx:s.size≤k∨(k<s.size∧nS s o k)
  ·have hv:bM s o k=if o=0 then some k else none:=by
    rcases hx with hx|⟨hx,hy⟩
    ·exact NT s o k hx
    ·exact NU s o k hx hy
   have HV:=aen hv;clear hv;have hw:s.size≤k∨(∃hlt:k<s.size,(((s[k].toNat:Nat):Int) != 32)=false)∨(∃hlt:k<s.size,(((s[k].toNat:Nat):Int) != 32)=true∧(((s[k].toNat:Nat):Int) != 10)=false)∨(∃hlt:k<s.size,(((s[k].toNat:Nat):Int) != 32)=true∧(((s[k].toNat:Nat):Int) != 10)=true∧(((s[k].toNat:Nat):Int) != 41)=false∧o=0):=by
    rcases hx with hx|⟨hx,hy⟩
    ·exact Or.inl hx
    ·right;rcases hy with hy|hy|⟨hy,hz⟩
     ·left;exact⟨hx,by rw[get_bt s k hx,hy];rfl⟩
     ·right;left;exact⟨hx,by rw[get_bt s k hx,hy];exact⟨rfl,rfl⟩⟩
     ·right;right;exact⟨hx,by rw[get_bt s k hx,hy];exact⟨rfl,rfl,rfl,hz⟩⟩
   clear hx;by_cases e1:k=i∨0<o
   ·have HR:Hid (R=none):=aen (by
     by_cases h0:o=0
     ·obtain rfl:k=i:=by omega
      exact HI.out (by rw[←Hk.out,HV.out,if_pos h0])
     ·exact HN.out (by rw[←Hk.out,HV.out,if_neg h0]))
    have hE:(((k:Int)==i)=true∧(k==i)=true)∨(((k:Int)==i)=false∧(k==i)=false∧0<o):=by
     by_cases h0:k=i
     ·left;rw[h0];simp
     ·right;exact⟨by rw[aes];omega,by rw[aes];omega,by omega⟩
    clear e1;obtain⟨c0,c1,c2,f0,f1,f2⟩:=Z3.facts HB.out;rcases hw with hw|⟨hlt,y1⟩|⟨hlt,y1,y2⟩|⟨hlt,y1,y2,y3,rfl⟩;all_goals
     rcases hE with ⟨x1,x3⟩|⟨x1,x3,x2⟩;all_goals
      first
      |omega
      |(go_wp2
        exact AV (fZ HB.out rfl _ _ _) rfl rfl (oW HR.out (below3 hbw (aeo _) _ _ _)))
   ·obtain rfl:o=0:=by omega
    have HR:Hid (R=some (bK (sub s i k),k)):=aen (HS.out k (by omega) (by rw[←Hk.out,HV.out,if_pos rfl]));have x1:((k:Int)==i)=false:=by rw[aes];omega
    have x2:(k==i)=false:=by rw[aes];omega
    have HU:=aen fun W=>PX s i k W hs;clear e1;rcases hw with hw|⟨hlt,y1⟩|⟨hlt,y1,y2⟩|⟨hlt,y1,y2,y3,_⟩;all_goals
     go_wp2_with fail;with_reducible refine(HU.out _).mono ?_
     rintro e w1 ⟨rfl,b1⟩;have HB1:=aen (show Z3 w1 w.heap.size from ae.below HB.out b1 hgl);obtain⟨c0,c1,c2,f0,f1,f2⟩:=Z3.facts HB1.out;go_wp2;exact AV (fZ HB1.out rfl _ _ _) rfl rfl (JC HR.out rfl (below3 (hbw.trans (b1.mono hz)) (aeo _) _ _ _))
  ·have hlt:k<s.size:=by omega
   have hns:¬nS s o k:=fun e=>hx (Or.inr ⟨hlt,e⟩);clear hx;have HC:=aen fun W=>JB s k W hs hlt;have hlt2:((s[k].toNat:Nat):Int)<256:=by rw[get_bt s k hlt];have:=aK s k;omega
   have n32:bt s k≠32:=fun e=>hns (Or.inl e);have n10:bt s k≠10:=fun e=>hns (Or.inr (Or.inl e));have y1:(((s[k].toNat:Nat):Int) != 32)=true:=by rw[get_bt s k hlt];simp;omega
   have y2:(((s[k].toNat:Nat):Int) != 10)=true:=by rw[get_bt s k hlt];simp;omega
   by_cases hE:dJ s k=true
   ·obtain⟨hk2,JA⟩:=oL hE;have y3:(((s[k].toNat:Nat):Int) != 41)=true:=by rw[get_bt s k hlt];simp;omega
    have hst:Hid (bM s o (k+2)=bM s 0 i):=aen (by rw[←Hk.out];exact(NV s o k hE).symm);rw[hE] at HC;clear hE n32 n10 hns JA;go_wp2_with fail;with_reducible refine(HC.out _).mono ?_
    rintro e w1 ⟨rfl,b1⟩;go_wp2;go_roundw;case rel=>exact⟨o,k+2,by omega,by omega,by omega,by go_num,rfl,hst,HB.out.below b1 hgl,hbw.trans (b1.mono hz)⟩
    case measure=>simp[intOf];omega
   ·rw[Bool.not_eq_true] at hE;have HE:=aen hE;rw[hE] at HC;clear hE;by_cases c40:bt s k=40
    ·have y3:(((s[k].toNat:Nat):Int) != 41)=true:=by rw[get_bt s k hlt];simp;omega
     have S8:(((s[k].toNat:Nat):Int)==41)=false:=by rw[get_bt s k hlt,aes];omega
     have y4:(((s[k].toNat:Nat):Int)==40)=true:=by rw[get_bt s k hlt,c40];rfl
     have hst:=NW s o k hlt c40;have Ci:=aen hst;clear n32 n10 hns hst c40;by_cases h8:8≤o
     ·obtain rfl:o=8:=by omega
      have HR:Hid (R=none):=aen (HN.out (by rw[←Hk.out,Ci.out,if_pos h8]));go_wp2_with fail;with_reducible refine(HC.out _).mono ?_
      rintro e w1 ⟨rfl,b1⟩;have HB1:=aen (show Z3 w1 w.heap.size from ae.below HB.out b1 hgl);obtain⟨c0,c1,c2,f0,f1,f2⟩:=Z3.facts HB1.out;go_wp2;exact AV (fZ HB1.out rfl _ _ _) rfl rfl (oW HR.out (below3 (hbw.trans (b1.mono hz)) (aeo _) _ _ _))
     ·have hst:Hid (bM s (o+1) (k+1)=bM s 0 i):=aen (by rw[←Hk.out,Ci.out,if_neg h8]);go_wp2_with fail;with_reducible refine(HC.out _).mono ?_
      rintro e w1 ⟨rfl,b1⟩;go_wp2;go_roundw;case rel=>exact⟨o+1,k+1,by omega,by omega,by omega,by go_num,by go_num,hst,HB.out.below b1 hgl,hbw.trans (b1.mono hz)⟩
      case measure=>simp[intOf];omega
    ·have y4:(((s[k].toNat:Nat):Int)==40)=false:=by rw[get_bt s k hlt,aes];omega
     by_cases nU:bt s k=41
     ·have y3:(((s[k].toNat:Nat):Int) != 41)=false:=by rw[get_bt s k hlt,nU];rfl
      have S8:(((s[k].toNat:Nat):Int)==41)=true:=by rw[get_bt s k hlt,nU];rfl
      have ho0:0<o:=by
       rcases Nat.eq_zero_or_pos o with e|e
       ·exact absurd (Or.inr (Or.inr ⟨nU,e⟩)) hns
       ·exact e
      have hst:Hid (bM s (o - 1) (k+1)=bM s 0 i):=aen (by rw[←Hk.out,NY s o k hlt nU ho0]);clear n32 n10 hns c40 nU;go_wp2_with fail;with_reducible refine(HC.out _).mono ?_
      rintro e w1 ⟨rfl,b1⟩;go_wp2;go_roundw;case rel=>exact⟨o - 1,k+1,by omega,by omega,by omega,by go_num,congrArg (Value.int .i64) (by omega),hst,HB.out.below b1 hgl,hbw.trans (b1.mono hz)⟩
      case measure=>simp[intOf];omega
     ·have y3:(((s[k].toNat:Nat):Int) != 41)=true:=by rw[get_bt s k hlt];simp;omega
      have S8:(((s[k].toNat:Nat):Int)==41)=false:=by rw[get_bt s k hlt,aes];omega
      have hst:Hid (bM s o (k+1)=bM s 0 i):=aen (by rw[←Hk.out,NZ s o k hlt hns HE.out c40 nU]);clear n32 n10 hns c40 nU;go_wp2_with fail;with_reducible refine(HC.out _).mono ?_
      rintro e w1 ⟨rfl,b1⟩;go_wp2;go_roundw;case rel=>exact⟨o,k+1,by omega,by omega,by omega,by go_num,rfl,hst,HB.out.below b1 hgl,hbw.trans (b1.mono hz)⟩
      case measure=>simp[intOf];omega
theorem abm(s:ByteArray)(i:Int)(w:World)(hs:s.size≤1000000) :
 Calls prog 185 #[.string s,.int .i64 i] w (jO (bI s i) w):=by
 by_cases h:0≤i∧i<s.size
 ·obtain⟨k,rfl⟩:=Int.eq_ofNat_of_zero_le h.1;by_cases hc:bt s k=60
  ·exact abj s k w hs (by have:=h.2;omega) hc
  ·exact abl s k w hs (by have:=h.2;omega) hc
 ·exact abh s i w hs h
theorem S9(a b:List Int):intCells (a++b)=intCells a++intCells b:=by simp[intCells]
theorem abn(n:Nat)(h:n<128):bn (n:Int)=[UInt8.ofNat n]:=by
 rw[Bv n (zI n (by omega)),Iw n h];rfl
theorem LQ{w w1 w2:World}{B n:Nat}{v x y:Value}{e t:TypeId}{xs:List Value}{o2:Obj}(hown1:w1.ownsRow B e 1 v n xs)(hgrow:((w1.alloc (.cells #[x,y] t)).alloc o2).grownBy w2 v.ownBlock)
 (hbw:Below w.heap.size w w1) (hB:B=w.heap.size) :
 w2.cell? ⟨w1.heap.size,0,none⟩=some x∧w2.cell? ⟨w1.heap.size,1,none⟩=some y∧Below w.heap.size w w2:=by
 have hne:some w1.heap.size≠v.ownBlock:=fun e=>by have:=(hown1.lt _ e.symm).2;omega
 have hz:=hbw.size;refine⟨hgrow.cell ?_ hne,hgrow.cell ?_ hne,((hbw.alloc hz _).alloc (by simp;omega) _).grown hgrow (by simp;omega) (fun k hk=>by have:=(hown1.lt k hk).1;omega)⟩
 ·simp
 ·simp
theorem abo:(prog.info? 3).map (fun i=>(i.zero,i.size,i.bytes))=some (some (.int .i64 0),1,8):=by kernel_rfl
end Go.Proofs.YtpoafhgbhnblmaaGreatDoor
