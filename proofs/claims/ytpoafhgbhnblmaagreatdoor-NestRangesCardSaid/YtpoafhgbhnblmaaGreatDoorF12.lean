import Derived.Test.YtpoafhgbhnblmaaGreatDoorF11
set_option linter.unusedVariables false
set_option linter.unusedSimpArgs false
set_option maxRecDepth 100000
set_option maxHeartbeats 20000000
namespace Go.Proofs.YtpoafhgbhnblmaaGreatDoor
open Go.Proofs.Tryz (prog)
open Go.RowKit
theorem XV(c:Int)(w:World):Calls prog 263 #[.int .i64 c] w fun e w'=>e=.returned (.bool (qO c))∧w=w':=by
 have H:Hid (qO c=(c==32||c==10)):=aen rfl;generalize qO c=b at *;go_enter Tryz.func263,Tryz.ntmps263;go_wp2;all_goals
  go_ret;exact⟨aJ (by rw[H.out] <;> simp_all),rfl⟩
theorem XW(c:Int)(w:World):Calls prog 250 #[.int .i64 c] w fun e w'=>e=.returned (.bool (lJ c))∧w=w':=by
 have H:Hid (lJ c=(decide (48≤c)&&decide (c≤57))):=aen rfl;generalize lJ c=b at *;by_cases h:48≤c;all_goals
  go_enter Tryz.func250,Tryz.ntmps250;go_wp2
 all_goals
  go_ret;exact⟨aJ (by rw[H.out];first|rfl|(simp;omega)),rfl⟩
theorem XX(c:Int)(w:World):Calls prog 264 #[.int .i64 c] w fun e w'=>e=.returned (.int .i64 (jy c))∧w=w':=by
 have H:Hid (jy c=if (65≤c∧c≤90)∨(192≤c∧c≤222∧c≠215)∨(913≤c∧c≤939∧c≠930)∨(1040≤c∧c≤1071) then c+32 else if 1024≤c∧c≤1039 then c+80 else c):=aen rfl;generalize jy c=b at *;go_enter Tryz.func264,Tryz.ntmps264;go_wp2;all_goals
  go_ret;refine⟨iy ?_,rfl⟩;rw[H.out];try simp only[beq_iff_eq,aeB,aes,bne_eq_false_iff_eq,ne_eq] at *
  (repeat' split) <;> omega
def XY(w:World)(g:Nat)(l:List (Int × Int)):Prop:=g<w.heap.size∧∀k p,l[k]?=some p→w.cell? ⟨g,k * 2,none⟩=some (.int .i64 p.1)∧w.cell? ⟨g,k * 2+1,none⟩=some (.int .i64 p.2)
theorem PW(c:Int)(g cap:Nat)(l:List (Int × Int))(w:World)(hl:l.length≤1000)(h:XY w g l) :
 Calls prog 266 #[.int .i64 c,.slice (some ⟨g,0,none⟩) l.length cap] w fun e w'=>e=.returned (.bool (inB c l))∧Below w.heap.size w w':=by
 have HI:Hid (∀k,inB c l=(inB c (l.take k)||inB c (l.drop k))):=aen fun k=>by unfold inB;rw[←List.any_append,List.take_append_drop]
 generalize inB c l=R at *;go_enter Tryz.func266,Tryz.ntmps266;go_wp2;go_loopw [9] (fun i wr=>∃k:Nat,i=.int .i64 k∧k≤l.length∧Below w.heap.size w wr∧inB c (l.take k)=false) (fun i _=>l.length - (intOf i).toNat);case atStart=>exact⟨0,rfl,by omega,aer _ w,rfl⟩
 case round=>
  obtain⟨k,rfl,hk,hb,hno⟩:=hrel;have Hno:=aen hno;clear hno;by_cases hlt:k<l.length
  ·have hp:=h.2 k l[k] (List.getElem?_eq_getElem hlt);have hdrop:Hid (inB c (l.drop k)=((decide (l[k].1≤c)&&decide (c≤l[k].2))||inB c (l.drop (k+1)))):=aen (by rw[List.drop_eq_getElem_cons hlt];rfl);have htake:Hid (inB c (l.take (k+1))=(inB c (l.take k)||(decide (l[k].1≤c)&&decide (c≤l[k].2)))):=aen (by rw[List.take_succ_eq_append_getElem hlt];unfold inB;rw[List.any_append];simp);generalize l[k]=p at *;have hc0:wr.cell? ⟨g,k * 2,none⟩=some (.int .i64 p.1):=(hb.cell (p:=⟨g,k * 2,none⟩) h.1).trans hp.1;have hc1:wr.cell? ⟨g,k * 2+1,none⟩=some (.int .i64 p.2):=(hb.cell (p:=⟨g,k * 2+1,none⟩) h.1).trans hp.2;have hz:=hb.size;clear hp;by_cases c1:p.1≤c
   ·by_cases c2:c≤p.2
    ·go_wp2;go_ret;exact⟨aJ (by rw[HI.out k,Hno.out,hdrop.out];simp[c1,c2]),hb.alloc hz _⟩
    ·have d2:decide (c≤p.2)=false:=by simpa using c2
     go_wp2;go_roundw;case rel=>exact⟨k+1,by go_num,by omega,hb.alloc hz _,by rw[htake.out,Hno.out];simp;omega⟩
     case measure=>simp[intOf];omega
   ·have d1:decide (p.1≤c)=false:=by simpa using c1
    go_wp2;go_roundw;case rel=>exact⟨k+1,by go_num,by omega,hb.alloc hz _,by rw[htake.out,Hno.out];simp;omega⟩
    case measure=>simp[intOf];omega
  ·obtain rfl:k=l.length:=by omega
   have hR:Hid (R=false):=aen (by rw[HI.out l.length,Hno.out,List.drop_length];rfl);go_wp2;go_ret;exact⟨aJ hR.out.symm,hb⟩
theorem XZ(c:Int)(w:World):Calls prog 251 #[.int .i64 c] w fun e w'=>e=.returned (.bool (inB c qP))∧Below w.heap.size w w':=by
 go_enter Tryz.func251,Tryz.ntmps251;go_wp2_with fail;refine(PW c w.heap.size 13 qP _ (by decide) ?_).mono ?_
 ·refine⟨by simp,fun k p hk=>?_⟩;have hk':k<13:=(List.getElem?_eq_some_iff.1 hk).1;match k,hk' with
  |0,_|1,_|2,_|3,_|4,_|5,_|6,_|7,_|8,_|9,_|10,_|11,_|12,_=>simp[qP] at hk;subst hk;simp
 ·rintro e w1 ⟨rfl,hb⟩;go_wp2;go_ret;exact⟨rfl,((aer _ w).alloc (aeo _) _).trans (hb.mono (by simp))⟩
theorem X0(c:Int)(w:World):Calls prog 249 #[.int .i64 c] w fun e w'=>e=.returned (.bool (inB c kW))∧Below w.heap.size w w':=by
 go_enter Tryz.func249,Tryz.ntmps249;go_wp2_with fail;refine(PW c w.heap.size 14 kW _ (by decide) ?_).mono ?_
 ·refine⟨by simp,fun k p hk=>?_⟩;have hk':k<14:=(List.getElem?_eq_some_iff.1 hk).1;match k,hk' with
  |0,_|1,_|2,_|3,_|4,_|5,_|6,_|7,_|8,_|9,_|10,_|11,_|12,_|13,_=>simp[kW] at hk;subst hk;simp
 ·rintro e w1 ⟨rfl,hb⟩;go_wp2;go_ret;exact⟨rfl,((aer _ w).alloc (aeo _) _).trans (hb.mono (by simp))⟩
theorem JB(s:ByteArray)(k:Nat)(w:World)(hs:s.size≤1000000)(hk:k<s.size) :
 Calls prog 225 #[.string s,.int .i64 k] w fun e w'=>e=.returned (.bool (dJ s k))∧Below w.heap.size w w':=by
 have hlt2:((s[k].toNat:Nat):Int)<256:=by rw[get_bt s k hk];have:=aK s k;omega
 by_cases h1:k+1<s.size
 ·by_cases h0:bt s k=92
  ·have z0:(((s[k].toNat:Nat):Int)==92)=true:=by rw[get_bt s k hk,h0];rfl
   have HE:=aen (IJ s k h1);have hlt3:((s[k+1].toNat:Nat):Int)<256:=by rw[get_bt s (k+1) h1];have:=aK s (k+1);omega
   have hbi:=aen (oJ s (k+1) h1);have H0:=aen h0;clear h0;generalize dJ s k=E at *;by_cases h2:bt s (k+1)<128
   ·have z2:((s[k+1].toNat:Nat):Int)<128:=by rw[get_bt s (k+1) h1];omega
    have HR:Hid (E=inB (bt s (k+1):Int) qP):=aen (by rw[HE.out,H0.out,aeq h2];simp);go_enter Tryz.func225,Tryz.ntmps225;go_wp2_with fail;refine(XZ _ _).mono ?_;rintro e w' ⟨rfl,b1⟩;go_wp2;go_ret;exact⟨aJ (by rw[HR.out,hbi.out]),b1⟩
   ·have z2:128≤((s[k+1].toNat:Nat):Int):=by rw[get_bt s (k+1) h1];omega
    have HR:Hid (E=false):=aen (by rw[HE.out,aep h2];simp);go_enter Tryz.func225,Tryz.ntmps225;go_wp2;go_ret;exact⟨aJ (by rw[HR.out]),aer _ _⟩
  ·have z0:(((s[k].toNat:Nat):Int)==92)=false:=by rw[get_bt s k hk,aes];omega
   have HR:=aen (N6 s k h0);generalize dJ s k=E at *;go_enter Tryz.func225,Tryz.ntmps225;go_wp2;go_ret;exact⟨aJ (by rw[HR.out]),aer _ _⟩
 ·have HR:=aen (II s k (by omega));generalize dJ s k=E at *;go_enter Tryz.func225,Tryz.ntmps225;go_wp2;go_ret;exact⟨aJ (by rw[HR.out]),aer _ _⟩
def X3(s:ByteArray)(R:List UInt8)(w:World)(v i:Value)(wr:World):Prop:=
 ∃(k:Nat) (acc:List UInt8),i=.int .i64 k∧k≤s.size∧wr.ownsRow w.heap.size 5 1 v acc.length (Lib.byteCells acc)∧Below w.heap.size w wr∧Hid (acc++bK (sfx s k)=R)∧acc.length≤k
theorem X4(s:ByteArray)(w:World)(hs:s.size≤1000000):Calls prog 226 #[.string s] w fun e w'=>e=.returned (.string (mk (bK (bytesL s))))∧Below w.heap.size w w':=by
 have HX:Hid (bK (sfx s 0)=bK (bytesL s)):=aen rfl;generalize bK (bytesL s)=R at *;obtain⟨i0,hi0,hz0,hz1,hz2⟩:=info_parts EL;go_enter Tryz.func226,Tryz.ntmps226;go_wp2;go_loopw [3,4] (fun v i wr=>X3 s R w v i wr) (fun _ v _=>s.size - (intOf v).toNat);case atStart=>exact⟨0,[],rfl,by omega,World.ownsRow_nil _ _ _ _,aer _ w,HX,by simp⟩
 case round=>
  obtain⟨k,acc,rfl,hk,hown,hbw,aY,hal⟩:=hrel;have hz:=hbw.size;by_cases hlt:k<s.size
  ·have HC:=aen fun W=>JB s k W hs hlt;by_cases hE:dJ s k=true
   ·have hk1:k+1<s.size:=(oL hE).1;have hst:=aen (N9 s k hE);have hlt2:((s[k+1].toNat:Nat):Int)<256:=by rw[get_bt s (k+1) hk1];have:=aK s (k+1);omega
    have hbi:=aen (oJ s (k+1) hk1);rw[hE] at HC;clear hE;go_wp2_with fail;with_reducible refine(HC.out _).mono ?_
    rintro e w1 ⟨rfl,b1⟩;have hown1:=own_below hown b1;have hz1':=b1.size;go_wp2_with (at_builtin;refine wpList_append_own _ rfl _ _ 156 rfl w.heap.size 5 i0 _ 1 1 Tryz.underlying156 hi0 hz0 hz1 hz2 rfl (by decide) _ _ _ rfl (hown1.alloc _) ⟨w1.heap.size,0,none⟩ 1 1 [.int .u8 ((s[k+1].toNat:Nat):Int)] rfl rfl ?c1 ?c2 ?c3 ?c4 ?c5 ?_);case c1=>
     intro j u hj;match j,hj with
     |0,hj=>simp at hj;subst hj;simp[Addr.add]
    case c2=>intro u hu;simp at hu;subst hu;rfl
    case c3=>unfold maxLen;omega
    case c4=>omega
    case c5=>simp;omega
    intro v' w2 hown3 hgrow _;have hnx:Below w.heap.size w w2:=((hbw.trans (b1.mono hz)).alloc (by omega) _).grown hgrow (by simp;omega) (fun k hk=>(hown1.lt k hk).1);go_wp2;go_roundw;case rel=>
     refine⟨k+2,acc++[s.get! (k+1)],by go_num,by omega,?_,hnx,aen (by rw[←aY.out,hst.out];simp),by simp;omega⟩;rw[Lib.byteCells_append,aey,EN,←hbi.out];exact hown3
    case measure=>simp[intOf];omega
   ·rw[Bool.not_eq_true] at hE;have hst:=aen (Oa s k hlt hE);have hlt2:((s[k].toNat:Nat):Int)<256:=by rw[get_bt s k hlt];have:=aK s k;omega
    have hbi:=aen (oJ s k hlt);rw[hE] at HC;clear hE;go_wp2_with fail;with_reducible refine(HC.out _).mono ?_
    rintro e w1 ⟨rfl,b1⟩;have hown1:=own_below hown b1;have hz1':=b1.size;go_wp2_with (at_builtin;refine wpList_append_own _ rfl _ _ 156 rfl w.heap.size 5 i0 _ 1 1 Tryz.underlying156 hi0 hz0 hz1 hz2 rfl (by decide) _ _ _ rfl (hown1.alloc _) ⟨w1.heap.size,0,none⟩ 1 1 [.int .u8 ((s[k].toNat:Nat):Int)] rfl rfl ?c1 ?c2 ?c3 ?c4 ?c5 ?_);case c1=>
     intro j u hj;match j,hj with
     |0,hj=>simp at hj;subst hj;simp[Addr.add]
    case c2=>intro u hu;simp at hu;subst hu;rfl
    case c3=>unfold maxLen;omega
    case c4=>omega
    case c5=>simp;omega
    intro v' w2 hown3 hgrow _;have hnx:Below w.heap.size w w2:=((hbw.trans (b1.mono hz)).alloc (by omega) _).grown hgrow (by simp;omega) (fun k hk=>(hown1.lt k hk).1);go_wp2;go_roundw;case rel=>
     refine⟨k+1,acc++[s.get! k],by go_num,by omega,?_,hnx,aen (by rw[←aY.out,hst.out];simp),by simp;omega⟩;rw[Lib.byteCells_append,aey,EN,←hbi.out];exact hown3
    case measure=>simp[intOf];omega
  ·have HR:Hid (acc=R):=aen (by rw[←aY.out,N8 s k (by omega),List.append_nil]);obtain⟨A2,cp2,rfl⟩:=ay hown;have hcv:=OT wr 156 5 Tryz.underlying156 Tryz.underlying5 cp2 (Reads.of_own hown) 9 Tryz.underlying9;go_wp2;go_ret;exact⟨dX (by rw[HR.out];rfl),hbw⟩
theorem PX(s:ByteArray)(i k:Nat)(w:World)(hs:s.size≤1000000):Calls prog 226 #[.string (s.extract i k)] w fun e w'=>e=.returned (.string (mk (bK (sub s i k))))∧Below w.heap.size w w':=by
 have h:=X4 (s.extract i k) w (by have:(s.extract i k).size≤s.size:=(by rw[aex];omega);omega);rw[bytesL_sub] at h;exact h
def iZ:Option (List UInt8 × Nat)→Value
 |none=>.agg #[.string ⟨#[]⟩,.int .i64 0,.bool false]
 |some p=>.agg #[.string (mk p.1),.int .i64 p.2,.bool true]
def jO(r:Option (List UInt8 × Nat))(w:World)(e:Ending)(w':World):Prop:=e=.returned (iZ r)∧Below w.heap.size w w'
theorem fZ{W:World}{g:Nat}{T:TypeId}{cs:Array Value}(h:ae W g T cs)(hl:cs.size=3)(x y z:Value):ae (((W.setCell ⟨g,0,none⟩ x).setCell ⟨g,1,none⟩ y).setCell ⟨g,2,none⟩ z) g T #[x,y,z]:=by
 have:=((h.bJ 0 x).bJ 1 y).bJ 2 z;have e:((cs.setIfInBounds 0 x).setIfInBounds 1 y).setIfInBounds 2 z=#[x,y,z]:=by
  apply Array.ext
  ·simp[hl]
  ·intro i h1 h2;simp at h2;match i,h2 with
   |0,_=>simp[hl]
   |1,_=>simp[hl]
   |2,_=>simp[hl]
 rw[e] at this;exact this
theorem below3{B:Nat}{w W:World}(h:Below B w W){g:Nat}(hg:B≤g)(x y z:Value):Below B w (((W.setCell ⟨g,0,none⟩ x).setCell ⟨g,1,none⟩ y).setCell ⟨g,2,none⟩ z):=
 ((h.setCell (p:=⟨g,0,none⟩) hg x).setCell (p:=⟨g,1,none⟩) hg y).setCell (p:=⟨g,2,none⟩) hg z
theorem oW{r:Option (List UInt8 × Nat)}{w w':World}(h:r=none)(hb:Below w.heap.size w w'):jO r w (.returned (.agg #[.string ⟨#[]⟩,.int .i64 0,.bool false])) w':=by
 subst h;exact⟨rfl,hb⟩
theorem JC{r:Option (List UInt8 × Nat)}{t:List UInt8}{m:Nat}{n:Int}{w w':World}(h:r=some (t,m))(hn:n=m)(hb:Below w.heap.size w w'):jO r w (.returned (.agg #[.string (mk t),.int .i64 n,.bool true])) w':=by
 subst h hn;exact⟨rfl,hb⟩
theorem JD{W:World}{g:Nat}{x y z:Value}{P:Ending→World→Prop}{act:Act}(hr:ae W g 179 #[x,y,z])(h4:act.tmps.getD 8 undef=.pointer (some ⟨g,0,none⟩))
 (hd:act.defers=[]) (hP:P (.returned (.agg #[x,y,z])) W):bodyPost prog Tryz.f224 P Exit.ret act W:=by
 have c0:W.cell? ⟨g,0,none⟩=some x:=hr.cell 0;have c1:W.cell? ⟨g,1,none⟩=some y:=hr.cell 1;have c2:W.cell? ⟨g,2,none⟩=some z:=hr.cell 2;refine bodyPost_ret (v:=.agg #[x,y,z]) ?_ hd hP;rw[aew] at h4;simp[results,Tryz.results224,go_sem,h4,c0,c1,c2]
def X5(s:ByteArray)(i a b:Nat)(w:World)(v:Value)(wr:World):Prop:=
 ∃k:Nat,i+1≤k∧k≤s.size∧v=.int .i64 k∧Hid (bY s a b k=bY s a b (i+1))∧ae wr w.heap.size 179 #[.string ⟨#[]⟩,.int .i64 0,.bool false]∧Below w.heap.size w wr
theorem JE(s:ByteArray)(i a b:Nat)(w:World)(hs:s.size≤1000000)(hi:i<s.size)(ha:a<256∧a≠92∧a≠10)(hb:b<256∧b≠92) :
 Calls prog 224 #[.string s,.int .i64 i,.int .u8 a,.int .u8 b] w (jO (dY s i a b) w):=by
 have HS:Hid (∀k,bY s a b (i+1)=some k→dY s i a b=some (bK (sub s (i+1) k),k+1)):=aen fun k h=>by unfold dY;rw[h];rfl
 have HN:Hid (bY s a b (i+1)=none→dY s i a b=none):=aen fun h=>by unfold dY;rw[h];rfl
 generalize dY s i a b=R at *;go_enter Tryz.func224,Tryz.ntmps224;go_wp2;go_loopw [9] (fun v wr=>X5 s i a b w v wr) (fun v _=>s.size - (intOf v).toNat);case atStart=>exact⟨i+1,by omega,by omega,by go_num,aen rfl,ae.new _ _ _,(aer _ _).alloc (aeo _) _⟩
 case round=>
  obtain⟨k,hk1,hk,rfl,Hk,hB,hbw⟩:=hrel;have hz:=hbw.size;have HB:=aen hB;have hgl:=hB.lt;clear hB;by_cases hlt:k<s.size
  ·have HC:=aen fun W=>JB s k W hs hlt;have hlt2:((s[k].toNat:Nat):Int)<256:=by rw[get_bt s k hlt];have:=aK s k;omega
   by_cases c1:bt s k=a
   ·have z1:(((s[k].toNat:Nat):Int) != (a:Int))=false:=by rw[get_bt s k hlt,c1];simp
    have z1':(s[k].toNat != a)=false:=by rw[get_bt s k hlt,c1];simp
    have HR:Hid (R=some (bK (sub s (i+1) k),k+1)):=aen (HS.out k (by rw[←Hk.out];exact IM s a b k hlt ha.1 c1));have HU:=aen fun W=>PX s (i+1) k W hs;clear c1;go_wp2_with fail;with_reducible refine(HU.out _).mono ?_
    rintro e w1 ⟨rfl,b1⟩;have HB1:=aen (HB.out.below b1 hgl);have c0:=HB1.out.cell 0;have c1:=HB1.out.cell 1;have c2:=HB1.out.cell 2;have f0:=HB1.out.frozen 0;have f1:=HB1.out.frozen 1;have f2:=HB1.out.frozen 2;simp only[List.getElem?_toArray,List.getElem?_cons_zero,List.getElem?_cons_succ] at c0 c1 c2;go_wp2;exact JD (fZ HB1.out rfl _ _ _) rfl rfl (JC HR.out (by omega) (below3 (hbw.trans (b1.mono hz)) (aeo _) _ _ _))
   ·have z1:(((s[k].toNat:Nat):Int) != (a:Int))=true:=by rw[get_bt s k hlt];simp;omega
    have z1':(s[k].toNat != a)=true:=by rw[get_bt s k hlt];simp;omega
    by_cases c2:bt s k=b∨bt s k=10
    ·have HR:Hid (R=none):=aen (HN.out (by rw[←Hk.out];exact IP s a b k hlt ha.1 hb.1 c1 c2));have cc:((((s[k].toNat:Nat):Int)==(b:Int))=true∧(s[k].toNat==b)=true)∨((((s[k].toNat:Nat):Int)==(b:Int))=false∧(s[k].toNat==b)=false∧(((s[k].toNat:Nat):Int)==10)=true):=by
      rw[get_bt s k hlt];by_cases c:bt s k=b
      ·left;rw[c];simp
      ·right;have h10:bt s k=10:=c2.resolve_left c;refine⟨by rw[aes];omega,by rw[aes];omega,by rw[h10];rfl⟩
     clear c1 c2;have c0:=HB.out.cell 0;have c1:=HB.out.cell 1;have c2:=HB.out.cell 2;have f0:=HB.out.frozen 0;have f1:=HB.out.frozen 1;have f2:=HB.out.frozen 2;simp only[List.getElem?_toArray,List.getElem?_cons_zero,List.getElem?_cons_succ] at c0 c1 c2;rcases cc with ⟨z2,z3⟩|⟨z2,z3,z4⟩;all_goals
      go_wp2;exact JD (fZ HB.out rfl _ _ _) rfl rfl (oW HR.out (below3 hbw (aeo _) _ _ _))
    ·have z2:(((s[k].toNat:Nat):Int)==(b:Int))=false:=by rw[get_bt s k hlt,aes];omega
     have z2':(s[k].toNat==b)=false:=by rw[get_bt s k hlt,aes];omega
     have z3:(((s[k].toNat:Nat):Int)==10)=false:=by rw[get_bt s k hlt,aes];omega
     by_cases hE:dJ s k=true
     ·have hk2:k+1<s.size:=(oL hE).1;have hst:Hid (bY s a b (k+2)=bY s a b (i+1)):=aen (by rw[←Hk.out];exact(IQ s a b k ha.1 hb.1 ha.2.1 hb.2 hE).symm);rw[hE] at HC;clear hE c1 c2;go_wp2_with fail;with_reducible refine(HC.out _).mono ?_
      rintro e w1 ⟨rfl,b1⟩;go_wp2;go_roundw;case rel=>exact⟨k+2,by omega,by omega,by go_num,hst,HB.out.below b1 hgl,hbw.trans (b1.mono hz)⟩
      case measure=>simp[intOf];omega
     ·rw[Bool.not_eq_true] at hE;have hst:Hid (bY s a b (k+1)=bY s a b (i+1)):=aen (by rw[←Hk.out];exact(IU s a b k hlt ha.1 hb.1 c1 (fun e=>c2 (Or.inl e)) (fun e=>c2 (Or.inr e)) hE).symm);rw[hE] at HC;clear hE c1 c2;go_wp2_with fail;with_reducible refine(HC.out _).mono ?_
      rintro e w1 ⟨rfl,b1⟩;go_wp2;go_roundw;case rel=>exact⟨k+1,by omega,by omega,by go_num,hst,HB.out.below b1 hgl,hbw.trans (b1.mono hz)⟩
      case measure=>simp[intOf];omega
  ·have HR:Hid (R=none):=aen (HN.out (by rw[←Hk.out];exact IK s a b k (by omega)));have c0:=HB.out.cell 0;have c1:=HB.out.cell 1;have c2:=HB.out.cell 2;have f0:=HB.out.frozen 0;have f1:=HB.out.frozen 1;have f2:=HB.out.frozen 2;simp only[List.getElem?_toArray,List.getElem?_cons_zero,List.getElem?_cons_succ] at c0 c1 c2;go_wp2;exact JD (fZ HB.out rfl _ _ _) rfl rfl (oW HR.out (below3 hbw (aeo _) _ _ _))
theorem Ac{β:Type}(B:Nat)(t:TypeId)(f:β→Array Value):Own (fun s W=>ae W B t (f s)):=fun s X Y row hs hg hrow=>
 ae.grown hs hg (fun e'=>by obtain⟨o,ho,hc⟩:=hrow B e'.symm;rw[show X.heap[B]?=_ from hs] at ho;cases ho;cases hc)
theorem PY{X Y:World}{row:Option Nat}{n₀ size k:Nat}{e:TypeId}{v:Value}{xs:List Value}(hr:X.ownsRow n₀ e size v k xs)(hg:X.grownBy Y row)(hrow:∀r,row=some r→∃o:Obj,X.heap[r]?=some o∧o.isCells=false):Y.ownsRow n₀ e size v k xs:=by
 refine hr.kept hg ?_;rcases hr.2 with ⟨rfl,_⟩|⟨g,cap,cur,rfl,_,hgb,_⟩
 ·exact .inl rfl
 ·refine .inr fun e'=>?_;obtain⟨o,ho,hc⟩:=hrow g (by simpa [Value.ownBlock] using e'.symm);rw[hgb] at ho;cases ho;cases hc
def yc{n:Nat}(l:List (Fin n)):Nat:=match l.getLast? with | some x=>x.1 | none=>0
theorem FC{n:Nat}(l:List (Fin n))(x:Fin n):yc (l++[x])=x.1:=by unfold yc;rw[List.getLast?_concat]
theorem X6(s:ByteArray)(k:Nat)(hk:k≤s.size):fM s k (s.extract k s.size) 0 (s.size - k):=by
 refine⟨sfx s k,[],[],by simp,?_,sfx_len s k⟩;rw[extract_drop];unfold sfx;rw[bytesL_mk'];simp
theorem fM.symm{s s':ByteArray}{i i' n:Nat}(h:fM s i s' i' n):fM s' i' s i n:=by
 obtain⟨p,r,r',h1,h2,h3⟩:=h;exact⟨p,r',r,h2,h1,h3⟩
section
open Go.Shelf
attribute [local go_sem] Oper.semAt_some
def fG(s:ByteArray)(k:Nat):Bool:=decide (bt s k=123)&&(decide (k=0)||decide (bt s (k - 1)=32))&&(decide ((aN s k).2.2=0)&&decide ((aN s k).2.1=s.size))
def yf(s:ByteArray):Nat:=(List.range s.size).findIdx (fG s)
def ja(s:ByteArray):ByteArray × AttrL:=if yf s<s.size then (mk (trimS ((bytesL s).take (yf s))),(aN s (yf s:Nat)).1) else (s,ak)
theorem X7(s:ByteArray)(k:Nat)(hk:k<s.size)(h1:∀j,j<k→fG s j=false)(h2:fG s k=true):yf s=k:=by
 unfold yf;rw[List.findIdx_eq (by rw[List.length_range];exact hk)];exact⟨by rw[List.getElem_range];exact h2,fun j hj=>by rw[List.getElem_range];exact h1 j hj⟩
theorem X8(s:ByteArray)(h:∀j,j<s.size→fG s j=false):yf s=s.size:=by
 unfold yf;have:(List.range s.size).findIdx (fG s)=(List.range s.size).length:=List.findIdx_eq_length.2 fun x hx=>h x (List.mem_range.1 hx);rw[this,List.length_range]
theorem PZ(s:ByteArray)(k:Nat)(hk:k<s.size)(h1:∀j,j<k→fG s j=false)(h2:fG s k=true):ja s=(mk (trimS ((bytesL s).take k)),(aN s k).1):=by
 unfold ja;rw[X7 s k hk h1 h2,if_pos hk]
theorem Qa(s:ByteArray)(h:∀j,j<s.size→fG s j=false):ja s=(s,ak):=by
 unfold ja;rw[X8 s h,if_neg (Nat.lt_irrefl _)]
theorem Ya(s:ByteArray)(k:Nat)(hk:k<s.size) :
 ((aN (s.extract k s.size) 0).2.2=0∧(aN (s.extract k s.size) 0).2.1=s.size - k↔(aN s k).2.2=0∧(aN s k).2.1=s.size)∧((aN s k).2.2=0∧(aN s k).2.1=s.size→(aN (s.extract k s.size) 0).1=(aN s k).1):=by
 have ha:=X6 s k (by omega);have fwd:(aN s k).2.2=0∧(aN s k).2.1=s.size→aN (s.extract k s.size) (0:Nat)=((aN s k).1,0+(s.size - k),0):=fun ⟨h1,h2⟩=>by
  refine Fe ha (A:=(aN s k).1) ?_;rw[show k+(s.size - k)=s.size by omega,←h1,←h2]
 have bwd:(aN (s.extract k s.size) 0).2.2=0∧(aN (s.extract k s.size) 0).2.1=s.size - k→aN s (k:Nat)=((aN (s.extract k s.size) 0).1,k+(s.size - k),0):=fun ⟨h1,h2⟩=>by
  refine Fe ha.symm (A:=(aN (s.extract k s.size) 0).1) ?_;show aN (s.extract k s.size) 0=_;rw[Nat.zero_add,←h2,←h1]
 refine⟨⟨fun h=>?_,fun h=>?_⟩,fun h=>?_⟩
 ·rw[bwd h];exact⟨rfl,by show k+(s.size - k)=s.size;omega⟩
 ·have:=fwd h;rw[show ((0:Nat):Int)=0 from rfl] at this;rw[this];exact⟨rfl,by show 0+(s.size - k)=s.size - k;omega⟩
 ·have:=fwd h;rw[show ((0:Nat):Int)=0 from rfl] at this;rw[this]
theorem Yb{β:Type}(B base:Nat)(f:β→AttrL):Own (fun s W=>∃vC vP,ae W B 43 #[.string (f s).id,vC,vP]∧aZ W base (f s) vC vP):=by
 rintro s X Y row ⟨vC,vP,hb,ho⟩ hg hrow;exact⟨vC,vP,Ac B _ (fun _=>#[.string (f s).id,vC,vP]) s X Y row hb hg hrow,PY ho.cls hg hrow,PY ho.aH hg hrow,aev ho.le hg.size,ho.c32,ho.p32⟩
def Yc(r:ByteArray × AttrL)(w:World)(e:Ending)(w':World):Prop:=∃vC vP,e=.returned (.tuple #[.string r.1,.agg #[.string r.2.id,vC,vP]])∧aZ w' w.heap.size r.2 vC vP∧Below w.heap.size w w'
theorem Yd(s:ByteArray)(w:World)(hs:s.size≤1000000):Calls prog 104 #[.string s] w (Yc (ja s) w):=by
 have HP:=aen fun W=>BQ s W;have HN:=aen (Qa s);have JF:=aen (PZ s);generalize ja s=R at *;refine(callsIn_wide (n:=5)).1 ?_;refine callsIn_of_wp_marks Tryz.func104 rfl trivial ?_ rfl;simp only[Tryz.ntmps104,List.size_toArray,aeC,List.length_nil,Nat.reduceAdd,Nat.reduceSub,Array.replicate_succ,Array.replicate_zero,List.push_toArray,List.append_toArray,List.nil_append,List.cons_append];gi_wp2_with fail;refine⟨trivial,?_⟩;with_reducible refine(callsIn_wide.2 (HP.out _)).mono ?_
 rintro e w' ⟨rfl,rfl⟩;gi_wp2_with fail;have bS:=Boxed.new w 9 (.string s);have bR:=Boxed.new (w.alloc (.cells #[.string s] 9)) 9 (.string ⟨#[]⟩);rw[World.size_alloc] at bR;have bA:ae (((w.alloc (.cells #[.string s] 9)).alloc (.cells #[.string ⟨#[]⟩] 9)).alloc (.cells #[.string ⟨#[]⟩,.slice none 0 0,.slice none 0 0] 43)) (w.heap.size+1+1) 43 #[.string ⟨#[]⟩,.slice none 0 0,.slice none 0 0]:=by
  have:=ae.new ((w.alloc (.cells #[.string s] 9)).alloc (.cells #[.string ⟨#[]⟩] 9)) 43 #[.string ⟨#[]⟩,.slice none 0 0,.slice none 0 0];rw[World.size_alloc,World.size_alloc] at this;exact this
 have bC:=Boxed.new (((w.alloc (.cells #[.string s] 9)).alloc (.cells #[.string ⟨#[]⟩] 9)).alloc (.cells #[.string ⟨#[]⟩,.slice none 0 0,.slice none 0 0] 43)) 9 (.string s);rw[World.size_alloc,World.size_alloc,World.size_alloc] at bC;have hB0:Below w.heap.size w ((((w.alloc (.cells #[.string s] 9)).alloc (.cells #[.string ⟨#[]⟩] 9)).alloc (.cells #[.string ⟨#[]⟩,.slice none 0 0,.slice none 0 0] 43)).alloc (.cells #[.string s] 9)):=((((aer _ w).alloc (aeo _) _).alloc (by simp) _).alloc (by simp;omega) _).alloc (by simp;omega) _;have Ye:=((bS.alloc (.cells #[.string ⟨#[]⟩] 9)).alloc (.cells #[.string ⟨#[]⟩,.slice none 0 0,.slice none 0 0] 43)).alloc (.cells #[.string s] 9);have xH:=(bR.alloc (.cells #[.string ⟨#[]⟩,.slice none 0 0,.slice none 0 0] 43)).alloc (.cells #[.string s] 9);have Yf:=bA.alloc (.cells #[.string s] 9);have kD:((((w.alloc (.cells #[.string s] 9)).alloc (.cells #[.string ⟨#[]⟩] 9)).alloc (.cells #[.string ⟨#[]⟩,.slice none 0 0,.slice none 0 0] 43)).alloc (.cells #[.string s] 9)).heap.size=w.heap.size+4:=by simp
 generalize ((((w.alloc (.cells #[.string s] 9)).alloc (.cells #[.string ⟨#[]⟩] 9)).alloc (.cells #[.string ⟨#[]⟩,.slice none 0 0,.slice none 0 0] 43)).alloc (.cells #[.string s] 9))=W0 at *;clear bS bR bA;refine wpIn_rangeFunc_ownG rfl (by omega) (gf:=163) (lb:=#[.pointer (some ⟨w.heap.size+1+1+1,0,none⟩)]) rfl trivial (enters_of Tryz.func163 (by kernel_rfl) rfl)
  (BU 4 (by omega) (w.heap.size+1+1+1) s hs _ bC) (Kp:=uU (w.heap.size+1+1+1)) (fun h1 h2=>h2.trans h1) (fun W l o o' hl ho hc _=>World.putObj_heap_other (fun e=>by omega)) (aer _ _) (fun _=>rfl)
  (fun (pre:List (Fin s.size)) W=>(Boxed W w.heap.size 9 (.string s)∧Boxed W (w.heap.size+1+1+1) 9 (.string s))∧(Boxed W (w.heap.size+1) 9 (.string ⟨#[]⟩)∧ae W (w.heap.size+1+1) 43 #[.string ⟨#[]⟩,.slice none 0 0,.slice none 0 0])∧(∀j∈pre,fG s j.1=false)∧Below w.heap.size w W)
  (fun q (pre:List (Fin s.size)) W=>(q=Code.ret∧∃pr x,pre=pr++[x]∧(∀j∈pr,fG s j.1=false)∧fG s x.1=true)∧(Boxed W (w.heap.size+1) 9 (.string (mk (trimS ((bytesL s).take (yc pre)))))∧∃vC vP,ae W (w.heap.size+1+1) 43 #[.string (aN s (yc pre:Nat)).1.id,vC,vP]∧aZ W w.heap.size (aN s (yc pre:Nat)).1 vC vP)∧Below w.heap.size w W)
  (OwnFrom.and (OwnFrom.and (Own.from (boxed_own _ _ (fun _=>.string s)) _) (Own.from (boxed_own _ _ (fun _=>.string s)) _)) (OwnFrom.and (OwnFrom.and (Own.from (boxed_own _ _ (fun _=>.string ⟨#[]⟩)) _) (Own.from (Ac _ _ (fun _=>#[.string ⟨#[]⟩,.slice none 0 0,.slice none 0 0])) _)) (OwnFrom.and (ownFrom_pure _ _) (ownFrom_below (aeo _) (by omega)))))
  (fun q=>OwnFrom.and (ownFrom_pure _ _) (OwnFrom.and (OwnFrom.and (Own.from (boxed_own _ _ (fun (pre:List (Fin s.size))=>.string (mk (trimS ((bytesL s).take (yc pre)))))) _) (Own.from (Yb _ _ (fun (pre:List (Fin s.size))=>(aN s (yc pre:Nat)).1)) _)) (ownFrom_below (aeo _) (by omega))))
  ⟨⟨Ye,bC⟩,⟨xH,Yf⟩,fun j h=>absurd h (by simp),hB0⟩
  (fun (x:Fin s.size)=>{tmps:=#[.string s,.pointer (some ⟨w.heap.size,0,none⟩),.pointer (some ⟨w.heap.size+1,0,none⟩),.pointer (some ⟨w.heap.size+1+1,0,none⟩),.int .i64 (x.1:Nat),.int .u8 (bt s x.1),undef,undef,undef,.string s,.func (.func 163) #[] #[.pointer (some ⟨w.heap.size+1+1+1,0,none⟩)],.int .i64 (x.1:Nat),.int .u8 (bt s x.1),undef,undef,undef,undef,undef,undef,undef,undef,undef,undef,undef,undef,undef,undef,undef,undef,undef,undef,undef,undef,undef,undef,undef,undef,undef,undef,undef,undef,undef,undef,undef,undef,undef,undef,undef,undef,undef,undef],defers:=[]}) ?assign ?body ?done ?stop
 case assign=>
  intro l x W K hK;gi_wp2_with fail;exact hK
 case body=>
  rintro l pre ⟨k,hk⟩ W ⟨⟨hS,hC⟩,⟨hR,hA⟩,hg,hB⟩ hlt;have HG:=aen hg;clear hg;have kS:=hS.cell;simp only;have hmx:prog.follows .mixedOrders=true:=by kernel_rfl
  have NX:fG s k=false→∀j∈pre++[(⟨k,hk⟩:Fin s.size)],fG s j.1=false:=fun h j hj=>by
   rcases List.mem_append.1 hj with hj|hj
   ·exact HG.out j hj
   ·rw[List.mem_singleton] at hj;rw[hj];exact h
  have hcase:((((bt s k:Nat):Int) != 123)=true∧Hid (fG s k=false))∨((((bt s k:Nat):Int) != 123)=false∧Hid (bt s k=123)):=by
   by_cases h:bt s k=123
   ·right;exact⟨by rw[h];rfl,aen h⟩
   ·left;exact⟨by rw[aeB];omega,aen (by unfold fG;rw[aep h];rfl)⟩
  rcases hcase with ⟨d1,hf⟩|⟨d1,JG⟩
  ·have HN':=aen (NX hf.out);clear NX hf;gi_wp2_with fail;exact⟨(aeu _).from _,rfl,⟨hS,hC⟩,⟨hR,hA⟩,HN'.out,hB⟩
  have Qb:(decide (0<k)=false∧Hid (k=0))∨(∃y,∃hy:y<s.size,(k:Int) - 1=(y:Int)∧decide (0<k)=true∧Hid (k - 1=y)∧Hid (k≠0)):=by
   by_cases h:k=0
   ·left;exact⟨aep (by omega),aen h⟩
   ·right;exact⟨k - 1,by omega,by omega,aeq (by omega),aen rfl,aen h⟩
  have hgo:(decide (0<k)=false∧Hid (bt s k=123∧(k=0∨bt s (k - 1)=32)))∨(∃y,∃hy:y<s.size,(k:Int) - 1=(y:Int)∧decide (0<k)=true∧s[y].toNat=bt s y∧(((bt s y:Nat):Int) != 32)=false∧Hid (bt s k=123∧(k=0∨bt s (k - 1)=32)))∨(∃y,∃hy:y<s.size,(k:Int) - 1=(y:Int)∧decide (0<k)=true∧s[y].toNat=bt s y∧(((bt s y:Nat):Int) != 32)=true∧Hid (fG s k=false)):=by
   rcases Qb with ⟨h1,h2⟩|⟨y,hy,h1,h2,h3,h4⟩
   ·left;exact⟨h1,aen ⟨JG.out,Or.inl h2.out⟩⟩
   ·right;by_cases h:bt s y=32
    ·left;exact⟨y,hy,h1,h2,get_bt s y hy,by rw[h];rfl,aen ⟨JG.out,Or.inr (by rw[h3.out];exact h)⟩⟩
    ·right;exact⟨y,hy,h1,h2,get_bt s y hy,by rw[aeB];omega,aen (by unfold fG;rw[aep h4.out,h3.out,aep h];simp)⟩
  clear Qb JG;have hlc:∀y,bt s y<256:=aK s;clear hlc;have mQ:Hid (∀W1,CallsIn (Fence.wide.inRound l) (5 - 1 - 1 - 1) prog 148 #[.string (s.extract k s.size),.int .i64 0] W1 (wM (aN (s.extract k s.size) 0) W1)):=aen fun W1=>CallsIn.inRound l ((callsIn_wide (n:=5 - 1 - 1 - 1)).2 (parse_any W1 (s.extract k s.size) 0 (by rw[aex];omega)));obtain⟨hp1,hp2⟩:=Ya s k hk;have tN:=aen hp1;have HP2:=aen hp2;clear hp1 hp2;have HT:Hid (∀W,Calls prog 105 #[.string (s.extract 0 k)] W fun e w'=>e=.returned (.string (mk (trimS ((bytesL s).take k))))∧w'=W):=aen fun W=>by
   have h:=(uT (s.extract 0 k) W (by rw[aex];omega)).mono fun e w' h=>(⟨h.1,h.2.symm⟩:_∧w'=W);rw[wC,bytesL_mk'] at h;rw[wC];exact h
  generalize aN (s.extract k s.size) 0=pr at *;obtain⟨a,t,n⟩:=pr;simp only at tN HP2;have hki:(k:Int)≤(s.size:Int):=by omega
  have hsub:(s.size:Int) - (k:Int)=((s.size - k:Nat):Int):=by omega
  obtain⟨m,hm⟩:∃m,m=s.size - k:=⟨_,rfl⟩;rw[←hm] at hsub tN;clear hm;have kX:(Hid (fG s k=false∨¬(bt s k=123∧(k=0∨bt s (k - 1)=32)))∧(((n:Int)==0)=false∨(((n:Int)==0)=true∧(t==m)=false∧((t:Int)==(m:Int))=false)))∨(Hid ((fG s k=true∨¬(bt s k=123∧(k=0∨bt s (k - 1)=32)))∧a=(aN s k).1)∧((n:Int)==0)=true∧(t==m)=true∧((t:Int)==(m:Int))=true):=by
   by_cases hb:bt s k=123∧(k=0∨bt s (k - 1)=32)
   ·have e0:fG s k=(decide ((aN s k).2.2=0)&&decide ((aN s k).2.1=s.size)):=by
     unfold fG;rw[aeq hb.1];rcases hb.2 with h|h
     ·rw[aeq h];simp
     ·rw[aeq h];simp
    by_cases hh:n=0∧t=m
    ·right;have:=tN.out.1 hh;refine⟨aen ⟨Or.inl (by rw[e0,aeq this.1,aeq this.2];rfl),HP2.out this⟩,by rw[beq_iff_eq];omega,by rw[beq_iff_eq];exact hh.2,by rw[beq_iff_eq];omega⟩
    ·left;refine⟨aen (Or.inl ?_),?_⟩
     ·rw[e0,Bool.and_eq_false_iff,decide_eq_false_iff_not,decide_eq_false_iff_not];by_cases h1:(aN s k).2.2=0
      ·right;intro h2;exact hh (tN.out.2 ⟨h1,h2⟩)
      ·left;exact h1
     ·by_cases h0:n=0
      ·right;exact⟨by rw[beq_iff_eq];omega,by rw[aes];exact fun e=>hh ⟨h0,e⟩,by rw[aes];intro e;exact hh ⟨h0,by omega⟩⟩
      ·left;rw[aes];omega
   ·by_cases hh:n=0∧t=m
    ·right;have:=tN.out.1 hh;exact⟨aen ⟨Or.inr hb,HP2.out this⟩,by rw[beq_iff_eq];omega,by rw[beq_iff_eq];exact hh.2,by rw[beq_iff_eq];omega⟩
    ·left;refine⟨aen (Or.inr hb),?_⟩;by_cases h0:n=0
     ·right;exact⟨by rw[beq_iff_eq];omega,by rw[aes];exact fun e=>hh ⟨h0,e⟩,by rw[aes];intro e;exact hh ⟨h0,by omega⟩⟩
     ·left;rw[aes];omega
  clear tN HP2;have JH:=aen NX;clear NX;rcases hgo with ⟨d2,hok⟩|⟨y,hy,d0,d2,d4,d3,hok⟩|⟨y,hy,d0,d2,d4,d3,hf⟩;case inr.inr=>
   have HN':=aen (JH.out hf.out);clear kX hf;gi_wp2_with fail;exact⟨(aeu _).from _,rfl,⟨hS,hC⟩,⟨hR,hA⟩,HN'.out,hB⟩
  all_goals
   gi_wp2_with fail;refine⟨trivial,?_⟩;with_reducible refine(mQ.out _).mono ?_
   rintro e W1 ⟨v,rfl,⟨⟨vC,vP,rfl,dP,hP1⟩,hc32,nV⟩,b1⟩;obtain⟨qA,qc,rfl⟩:=ay dP;obtain⟨qD,qd,rfl⟩:=ay hP1;have gS:Boxed W1 w.heap.size 9 (.string s):=(b1.block _ hS.lt).trans hS;have gC:Boxed W1 (w.heap.size+1+1+1) 9 (.string s):=(b1.block _ hC.lt).trans hC;have gR:Boxed W1 (w.heap.size+1) 9 (.string ⟨#[]⟩):=(b1.block _ hR.lt).trans hR;have gA:ae W1 (w.heap.size+1+1) 43 #[.string ⟨#[]⟩,.slice none 0 0,.slice none 0 0]:=hA.below b1 hA.lt;have kS1:=gS.cell;have JI:=gS.alloc (.cells #[.string a.id,(.slice qA a.cl.length qc),(.slice qD a.pr.length qd)] 43);have FD:=gC.alloc (.cells #[.string a.id,(.slice qA a.cl.length qc),(.slice qD a.pr.length qd)] 43);have Cm:=gR.alloc (.cells #[.string a.id,(.slice qA a.cl.length qc),(.slice qD a.pr.length qd)] 43);have vk:=ae.alloc gA (.cells #[.string a.id,(.slice qA a.cl.length qc),(.slice qD a.pr.length qd)] 43);have Yg:=JI.cell;have bN:=ae.new W1 43 #[.string a.id,(.slice qA a.cl.length qc),(.slice qD a.pr.length qd)];have hBw:Below w.heap.size w (W1.alloc (.cells #[.string a.id,(.slice qA a.cl.length qc),(.slice qD a.pr.length qd)] 43)):=(hB.trans (b1.mono hB.size)).alloc (aev hB.size b1.size) _;have hkp:KeepsOthers W (W1.alloc (.cells #[.string a.id,(.slice qA a.cl.length qc),(.slice qD a.pr.length qd)] 43)):=(wI b1).trans (KeepsOthers.alloc _ _);rcases kX with ⟨hno,t1|⟨t1,t2,t3⟩⟩|⟨hyes,t1,t2,t3⟩;case inl.inl=>
    have HN':=aen (JH.out (hno.out.resolve_right fun h=>h hok.out));clear hno;gi_wp2_with fail;exact⟨hkp.from _,FD.trans hC.symm,⟨JI,FD⟩,⟨Cm,vk⟩,HN'.out,hBw⟩
   case inl.inr=>
    have HN':=aen (JH.out (hno.out.resolve_right fun h=>h hok.out));clear hno;gi_wp2_with fail;exact⟨hkp.from _,FD.trans hC.symm,⟨JI,FD⟩,⟨Cm,vk⟩,HN'.out,hBw⟩
   case inr=>
    obtain⟨hy1,hy2⟩:=hyes.out;have HY:=aen (hy1.resolve_right fun h=>h hok.out);clear hyes hy1;have Yh:Hid (aZ (W1.alloc (.cells #[.string a.id,(.slice qA a.cl.length qc),(.slice qD a.pr.length qd)] 43)) w.heap.size a (.slice qA a.cl.length qc) (.slice qD a.pr.length qd)):=aen ⟨own_below (own_base dP hB.size) ((aer _ _).alloc (aeo _) _),own_below (own_base hP1 hB.size) ((aer _ _).alloc (aeo _) _),hBw.size,hc32,nV⟩;have e0:=bN.cell 0;have e1:=bN.cell 1;have e2:=bN.cell 2;have r0:=Cm.cell;have r1:=Cm.frozen;have a0:=vk.cell 0;have a1:=vk.cell 1;have a2:=vk.cell 2;have f0:=vk.frozen 0;have f1:=vk.frozen 1;have f2:=vk.frozen 2;have Qc:=aen hy2;clear hy2;have hzz:(W1.alloc (.cells #[.string a.id,(.slice qA a.cl.length qc),(.slice qD a.pr.length qd)] 43)).heap.size=W1.heap.size+1:=by simp
    gi_wp2_with fail;generalize W1.alloc (.cells #[.string a.id,(.slice qA a.cl.length qc),(.slice qD a.pr.length qd)] 43)=W2 at *;have hlow:w.heap.size+4≤W1.heap.size:=by have h1:=hC.lt;have h2:=b1.size;omega
    have bH:Hid (∀W':World,(W'.cell? ⟨w.heap.size,0,none⟩=some (.string s)∧W'.cell? ⟨W1.heap.size,0,none⟩=some (.string a.id)∧W'.cell? ⟨W1.heap.size,1,none⟩=some (.slice qA a.cl.length qc)∧W'.cell? ⟨W1.heap.size,2,none⟩=some (.slice qD a.pr.length qd))→∀(o:Nat) (u:Value) (b:Nat),(b=w.heap.size+1∨b=w.heap.size+1+1)→((W'.setCell ⟨b,o,none⟩ u).cell? ⟨w.heap.size,0,none⟩=some (.string s)∧(W'.setCell ⟨b,o,none⟩ u).cell? ⟨W1.heap.size,0,none⟩=some (.string a.id)∧(W'.setCell ⟨b,o,none⟩ u).cell? ⟨W1.heap.size,1,none⟩=some (.slice qA a.cl.length qc)∧(W'.setCell ⟨b,o,none⟩ u).cell? ⟨W1.heap.size,2,none⟩=some (.slice qD a.pr.length qd))):=aen fun W' ⟨h1,h2,h3,h4⟩ o u b hb=>by
     have g1:b≠w.heap.size:=by omega
     have g2:b≠W1.heap.size:=by omega
     exact⟨(World.cell?_setCell_far _ _ _ _ g1).trans h1,(World.cell?_setCell_far _ _ _ _ g2).trans h2,(World.cell?_setCell_far _ _ _ _ g2).trans h3,(World.cell?_setCell_far _ _ _ _ g2).trans h4⟩
    refine V7 (S:=fun W'=>W'.cell? ⟨w.heap.size,0,none⟩=some (.string s)∧W'.cell? ⟨W1.heap.size,0,none⟩=some (.string a.id)∧W'.cell? ⟨W1.heap.size,1,none⟩=some (.slice qA a.cl.length qc)∧W'.cell? ⟨W1.heap.size,2,none⟩=some (.slice qD a.pr.length qd)) hmx (by kernel_rfl) (fun ⟨_,_,h⟩=>h) ⟨Yg,e0,e1,e2⟩ (fun hHeld=>?_);refine tk 0 (.string s) rfl hHeld (fun W' hSw=>?_) ?_
    ·obtain⟨h1,h2,h3,h4⟩:=hSw;go_simp
    refine tk 4 (.agg #[.string a.id,.slice qA a.cl.length qc,.slice qD a.pr.length qd]) rfl hHeld (fun W' hSw=>?_) ?_
    ·obtain⟨h1,h2,h3,h4⟩:=hSw;go_simp
    refine tk 1 (.int .i64 (k:Nat)) rfl hHeld (fun W' hSw=>?_) ?_
    ·go_simp
    refine tk 2 (.string (s.extract 0 k)) rfl hHeld (fun W' hSw=>?_) ?_
    ·go_simp
    refine aC 3 rfl (fun K hK=>?_);go_simp;with_reducible refine(HT.out _).mono ?_
    rintro e w' ⟨rfl,rfl⟩;refine hK.out _ _ hHeld (fun _=>?_);clear hK K;refine aC 5 rfl (fun K hK=>?_);go_simp;refine hK.out _ _ (bH.out _ hHeld 0 _ _ (Or.inl rfl)) (fun Yi=>?_);clear hK K;refine aC 6 rfl (fun K hK=>?_);go_simp;refine hK.out _ _ (bH.out _ (bH.out _ (bH.out _ Yi 0 _ _ (Or.inr rfl)) 1 _ _ (Or.inr rfl)) 2 _ _ (Or.inr rfl)) (fun _=>?_);clear hK K;refine wpAnyH_done (by kernel_rfl) ?_ _;gi_wp2_with fail;have hB3:w.heap.size+3<W.heap.size:=hC.lt;have far:∀(g:Nat) (v:Value) (kk:Nat),(g=w.heap.size+1∨g=w.heap.size+1+1)→some g≠v.ownBlock→v.ownBlock=some kk→g≠kk:=fun g v kk _ h1 h2 e=>h1 (by rw[h2,e]);have o1:some (w.heap.size+1)≠(Value.slice qA a.cl.length qc).ownBlock:=wJ dP (by omega);have o2:some (w.heap.size+1+1)≠(Value.slice qA a.cl.length qc).ownBlock:=wJ dP (by omega);have o3:some (w.heap.size+1)≠(Value.slice qD a.pr.length qd).ownBlock:=wJ hP1 (by omega);have o4:some (w.heap.size+1+1)≠(Value.slice qD a.pr.length qd).ownBlock:=wJ hP1 (by omega);refine⟨(((((hkp.trans (aet _ ⟨w.heap.size+1,0,none⟩ _)).trans (aet _ ⟨w.heap.size+1+1,0,none⟩ _)).trans (aet _ ⟨w.heap.size+1+1,1,none⟩ _)).trans (aet _ ⟨w.heap.size+1+1,2,none⟩ _)).trans (KeepsOthers.drew _)).from _,⟨rfl,pre,⟨k,hk⟩,rfl,HG.out,HY.out⟩,⟨?_,.slice qA a.cl.length qc,.slice qD a.pr.length qd,?_,?_⟩,?_⟩
    ·rw[FC];exact ae.far (ae.far (ae.far (Cm.set _) (by simp) _) (by simp) _) (by simp) _
    ·rw[FC,←Qc.out];exact fZ (ae.far vk (by simp) _) rfl _ _ _
    ·rw[FC,←Qc.out];have h4:=(((Yh.out.setCell (p:=⟨w.heap.size+1,0,none⟩) (fun kk e=>far _ _ kk (Or.inl rfl) o1 e) (fun kk e=>far _ _ kk (Or.inl rfl) o3 e) (.string (mk (trimS ((bytesL s).take k))))).setCell (p:=⟨w.heap.size+1+1,0,none⟩) (fun kk e=>far _ _ kk (Or.inr rfl) o2 e) (fun kk e=>far _ _ kk (Or.inr rfl) o4 e) (.string a.id)).setCell (p:=⟨w.heap.size+1+1,1,none⟩) (fun kk e=>far _ _ kk (Or.inr rfl) o2 e) (fun kk e=>far _ _ kk (Or.inr rfl) o4 e) (.slice qA a.cl.length qc)).setCell (p:=⟨w.heap.size+1+1,2,none⟩) (fun kk e=>far _ _ kk (Or.inr rfl) o2 e) (fun kk e=>far _ _ kk (Or.inr rfl) o4 e) (.slice qD a.pr.length qd);exact⟨h4.cls,h4.aH,h4.le,h4.c32,h4.p32⟩
    ·exact(below3 (hBw.setCell (p:=⟨w.heap.size+1,0,none⟩) (by show w.heap.size≤w.heap.size+1;omega) _) (by omega) _ _ _).drew
 case done=>
  rintro D ys W hD hys ⟨⟨hS,hC⟩,⟨hR,hA⟩,hg,hB⟩ hK;have HE:=aen (HN.out fun j hj=>by
   have:j∈ys.map Fin.val:=by rw[hys];exact List.mem_range.2 hj
   obtain⟨y,hy,rfl⟩:=List.mem_map.1 this;exact hg y hy)
  clear hg hys;have kS:=hS.cell;have r0:=hR.cell;have r1:=hR.frozen;have a0:=hA.cell 0;have a1:=hA.cell 1;have a2:=hA.cell 2;have f0:=hA.frozen 0;have f1:=hA.frozen 1;have f2:=hA.frozen 2;have HX:Hid (ae ((((W.setCell ⟨w.heap.size+1,0,none⟩ (.string s)).setCell ⟨w.heap.size+1+1,0,none⟩ (.string ⟨#[]⟩)).setCell ⟨w.heap.size+1+1,1,none⟩ (.slice none 0 0)).setCell ⟨w.heap.size+1+1,2,none⟩ (.slice none 0 0)) (w.heap.size+1+1) 43 #[.string ⟨#[]⟩,.slice none 0 0,.slice none 0 0]):=aen (fZ (ae.far hA (by simp) _) rfl _ _ _);have HRR:Hid (Boxed ((((W.setCell ⟨w.heap.size+1,0,none⟩ (.string s)).setCell ⟨w.heap.size+1+1,0,none⟩ (.string ⟨#[]⟩)).setCell ⟨w.heap.size+1+1,1,none⟩ (.slice none 0 0)).setCell ⟨w.heap.size+1+1,2,none⟩ (.slice none 0 0)) (w.heap.size+1) 9 (.string s)):=aen (ae.far (ae.far (ae.far (hR.set _) (by simp) _) (by simp) _) (by simp) _);have jb:Hid (Below w.heap.size w ((((W.setCell ⟨w.heap.size+1,0,none⟩ (.string s)).setCell ⟨w.heap.size+1+1,0,none⟩ (.string ⟨#[]⟩)).setCell ⟨w.heap.size+1+1,1,none⟩ (.slice none 0 0)).setCell ⟨w.heap.size+1+1,2,none⟩ (.slice none 0 0))):=aen (below3 (hB.setCell (p:=⟨w.heap.size+1,0,none⟩) (by show w.heap.size≤w.heap.size+1;omega) _) (by omega) _ _ _);have HKK:Hid ((((((W.setCell ⟨w.heap.size+1,0,none⟩ (.string s)).setCell ⟨w.heap.size+1+1,0,none⟩ (.string ⟨#[]⟩)).setCell ⟨w.heap.size+1+1,1,none⟩ (.slice none 0 0)).setCell ⟨w.heap.size+1+1,2,none⟩ (.slice none 0 0))).heap[D]?=some (.deferred (some []))):=aen (((((aet W ⟨w.heap.size+1,0,none⟩ (.string s)).trans (aet _ ⟨w.heap.size+1+1,0,none⟩ (.string ⟨#[]⟩))).trans (aet _ ⟨w.heap.size+1+1,1,none⟩ (.slice none 0 0))).trans (aet _ ⟨w.heap.size+1+1,2,none⟩ (.slice none 0 0))).same D _ hK rfl);gi_wp2_with fail;refine⟨by simp,.inl ⟨_,_,rfl,run_takeDeferred HKK.out,?_⟩⟩;generalize ((((W.setCell ⟨w.heap.size+1,0,none⟩ (.string s)).setCell ⟨w.heap.size+1+1,0,none⟩ (.string ⟨#[]⟩)).setCell ⟨w.heap.size+1+1,1,none⟩ (.slice none 0 0)).setCell ⟨w.heap.size+1+1,2,none⟩ (.slice none 0 0))=WW at *;have c0:=cell_kept HRR.out.cell (grownBy_putObj' _ D (.deferred none)) (fun r e=>by cases e;exact⟨_,HKK.out,rfl⟩);have c1:=cell_kept (HX.out.cell 0) (grownBy_putObj' _ D (.deferred none)) (fun r e=>by cases e;exact⟨_,HKK.out,rfl⟩);have c2:=cell_kept (HX.out.cell 1) (grownBy_putObj' _ D (.deferred none)) (fun r e=>by cases e;exact⟨_,HKK.out,rfl⟩);have c3:=cell_kept (HX.out.cell 2) (grownBy_putObj' _ D (.deferred none)) (fun r e=>by cases e;exact⟨_,HKK.out,rfl⟩);have hR':=HE.out;subst hR';refine⟨.tuple #[.string s,.agg #[.string ⟨#[]⟩,.slice none 0 0,.slice none 0 0]],by simp[results,Tryz.results104,go_sem,c0,c1,c2,c3],⟨_,_,rfl,wP _ _ (aev jb.out.size (grownBy_putObj' _ D _).size),?_⟩⟩;exact jb.out.trans (belowK_b (w:=w) (aeo _) _ D _ _ (by omega) HKK.out rfl rfl)
 case stop=>
  rintro D q pre W hD hpre ⟨⟨rfl,pr,x,rfl,hg,hx⟩,⟨hR,vC,vP,hA,hO⟩,hB⟩ hK;rw[List.map_append] at hpre;obtain⟨hp1,hp2⟩:=EW hpre;have HE:=aen (JF.out x.1 hp2 (fun j hj=>by
   have:j∈pr.map Fin.val:=by rw[hp1];exact List.mem_range.2 hj
   obtain⟨y,hy,rfl⟩:=List.mem_map.1 this;exact hg y hy) hx)
  rw[FC] at hR hA hO;clear hg hx hpre hp1;generalize mk (trimS ((bytesL s).take x.1))=T at *;generalize (aN s (x.1:Nat)).1=a at *;gi_wp2_with fail;refine⟨by simp,.inl ⟨_,_,rfl,run_takeDeferred hK,?_⟩⟩;have c0:=cell_kept hR.cell (grownBy_putObj' _ D (.deferred none)) (fun r e=>by cases e;exact⟨_,hK,rfl⟩);have c1:=cell_kept (hA.cell 0) (grownBy_putObj' _ D (.deferred none)) (fun r e=>by cases e;exact⟨_,hK,rfl⟩);have c2:=cell_kept (hA.cell 1) (grownBy_putObj' _ D (.deferred none)) (fun r e=>by cases e;exact⟨_,hK,rfl⟩);have c3:=cell_kept (hA.cell 2) (grownBy_putObj' _ D (.deferred none)) (fun r e=>by cases e;exact⟨_,hK,rfl⟩);have hR':=HE.out;subst hR';refine⟨.tuple #[.string T,.agg #[.string a.id,vC,vP]],by simp[results,Tryz.results104,go_sem,c0,c1,c2,c3],⟨vC,vP,rfl,⟨ownsRow_putObj hO.cls (.deferred none) hK rfl,ownsRow_putObj hO.aH (.deferred none) hK rfl,?_,hO.c32,hO.p32⟩,?_⟩⟩
  ·exact aev hO.le (grownBy_putObj' W D _).size
  ·exact hB.trans (belowK_b (w:=w) (aeo _) _ D _ _ (by omega) hK rfl rfl)
theorem aV(W:World)(g:Nat)(y0 y1 y2 y3 y4 y5 y6 y7 y8 y9 aj:Value):W.grownBy (((((((((((W.setCell ⟨g,0,none⟩ y0).setCell ⟨g,1,none⟩ y1).setCell ⟨g,2,none⟩ y2).setCell ⟨g,3,none⟩ y3).setCell ⟨g,4,none⟩ y4).setCell ⟨g,5,none⟩ y5).setCell ⟨g,6,none⟩ y6).setCell ⟨g,7,none⟩ y7).setCell ⟨g,8,none⟩ y8).setCell ⟨g,9,none⟩ y9).setCell ⟨g,10,none⟩ aj) (some g):=
 (jo (jo (jo (jo (jo (jo (jo (jo (jo (jo (jo (vg W (some g)) 0 y0) 1 y1) 2 y2) 3 y3) 4 y4) 5 y5) 6 y6) 7 y7) 8 y8) 9 y9) 10 aj)
theorem dR{W W':World}{base g:Nat}{a:AttrL}{vC vP:Value}(h:aZ W base a vC vP)(hg:W.grownBy W' (some g))(hlt:g<base):aZ W' base a vC vP:=
 ⟨E8 h.cls hg hlt,E8 h.aH hg hlt,aev h.le hg.size,h.c32,h.p32⟩
theorem dN{W:World}{base base':Nat}{a:AttrL}{vC vP:Value}(h:aZ W base a vC vP)(hb:base'≤base):aZ W base' a vC vP:=
 ⟨own_base h.cls hb,own_base h.aH hb,aev hb h.le,h.c32,h.p32⟩
theorem ql{W:World}{base:Nat}{m:ag}{vC vP:Value}(h:aZ W base m.att vC vP):xX W base (.agg (m.cells vC vP)) m:=⟨_,_,rfl,h⟩
theorem Yj(X:ByteArray)(h:fF X=true):trimS (bytesL (aA X))=trimS (bytesL X):=by
 have e:bytesL (aA X)=(bytesL X).drop 1:=by
  unfold aA;rw[extract_drop,bytesL_mk'];rfl
 rw[e];rcases Nat.eq_zero_or_pos X.size with h0|h0
 ·rw[(size_nil X).1 h0];rfl
 ·have hb:bt X 0=32:=by
   unfold fF at h;rw[aep (by omega)] at h;simpa using h
  have:=bV X 0 h0;have e0:sfx X 0=bytesL X:=by unfold sfx;rfl
  rw[e0] at this;rw[this,(qR X 0).2 hb];unfold trimS;rw[wH];rfl
def kH(c:ByteArray):Option ag:=
 if 1≤aI c (· != 35)∧aI c (· != 35)≤6 then (if fF (c.extract (aI c (· != 35)) c.size)=true then some {kind:=2,n:=aI c (· != 35),rest:=(ja (mk (trimS (sfx c (aI c (· != 35)))))).1,att:=(ja (mk (trimS (sfx c (aI c (· != 35)))))).2} else none) else none
theorem Yk(c:ByteArray)(ind:Nat)(w:World)(hs:c.size≤1000000)(h0:0<c.size):Calls prog 59 #[.string c,.int .i64 ind] w (oQ (kH c) w):=by
 have hnl:=qf c (· != 35);have HRn:Hid (∀W,Calls prog 102 #[.string c,.int .u8 35] W fun e w'=>e=.returned (.int .i64 (aI c (· != 35)))∧Below W.heap.size W w'):=aen fun W=>BV c 35 (by omega) W hs;have HR:Hid (kH c=if 1≤aI c (· != 35)∧aI c (· != 35)≤6 then (if fF (c.extract (aI c (· != 35)) c.size)=true then some {kind:=2,n:=aI c (· != 35),rest:=(ja (mk (trimS (sfx c (aI c (· != 35)))))).1,att:=(ja (mk (trimS (sfx c (aI c (· != 35)))))).2} else none) else none):=aen rfl;generalize kH c=R at *;generalize aI c (· != 35)=n at *;have hxs:(c.extract n c.size).size≤1000000:=by rw[aex];omega
 have mV:=aen fun W=>Fv (c.extract n c.size) W hxs;have htl:=wR (c.extract n c.size);have HX:=aen (extract_drop c n);have dZ:Hid (fF (c.extract n c.size)=true→∀W,Calls prog 105 #[.string (aA (c.extract n c.size))] W fun e w'=>e=.returned (.string (mk (trimS (sfx c n))))∧W=w'):=aen fun hsp W=>by
  have h:=uT (aA (c.extract n c.size)) W (by omega);rw[Yj _ hsp,HX.out,bytesL_mk',←HX.out] at h;exact h
 have htz:(mk (trimS (sfx c n))).size≤1000000:=by rw[mk_size];have:=pY (sfx c n);rw[sfx_len] at this;omega
 have JJ:=aen fun W=>Yd (mk (trimS (sfx c n))) W htz;clear HX htl;generalize ja (mk (trimS (sfx c n)))=AE at *;generalize mk (trimS (sfx c n))=T at *;generalize aA (c.extract n c.size)=Y at *;generalize fF (c.extract n c.size)=q at *;by_cases h1:n<1
 ·have HF:Hid (R=none):=aen (by rw[HR.out,if_neg (by omega)]);have d1:decide ((n:Int)<1)=true:=aeq (by omega);have d2:decide (n<1)=true:=aeq h1;have d3:decide (n=0)=true:=aeq (by omega);clear HR;go_enter Tryz.func59,Tryz.ntmps59;go_wp2_with fail;with_reducible refine(HRn.out _).mono ?_
  rintro e w' ⟨rfl,b1⟩;obtain⟨HZ,HB⟩:=dI b1;obtain⟨k0,k1,k2,k3,k4,k5,k6,k7,k8,k9,k10,y0,y1,y2,y3,y4,y5,y6,y7,y8,y9,aj⟩:=ZM.facts HZ;go_wp2_with fail;exact Ff (ax HZ _ _ _ _ _ _ _ _ _ _ _) rfl rfl rfl (eG HF.out ⟨_,_,_,_,_,_,_,_,_,_,_,_,_,_,_,rfl⟩ (au HB (aeo _) _ _ _ _ _ _ _ _ _ _ _))
 have d1:decide ((n:Int)<1)=false:=aep (by omega);have d2:decide (n<1)=false:=aep h1;have d3:decide (n=0)=false:=aep (by omega);by_cases h6:6<n
 ·have HF:Hid (R=none):=aen (by rw[HR.out,if_neg (by omega)]);have d4:decide (6<(n:Int))=true:=aeq (by omega);have d5:decide (6<n)=true:=aeq h6;clear HR;go_enter Tryz.func59,Tryz.ntmps59;go_wp2_with fail;with_reducible refine(HRn.out _).mono ?_
  rintro e w' ⟨rfl,b1⟩;obtain⟨HZ,HB⟩:=dI b1;obtain⟨k0,k1,k2,k3,k4,k5,k6,k7,k8,k9,k10,y0,y1,y2,y3,y4,y5,y6,y7,y8,y9,aj⟩:=ZM.facts HZ;go_wp2_with fail;exact Ff (ax HZ _ _ _ _ _ _ _ _ _ _ _) rfl rfl rfl (eG HF.out ⟨_,_,_,_,_,_,_,_,_,_,_,_,_,_,_,rfl⟩ (au HB (aeo _) _ _ _ _ _ _ _ _ _ _ _))
 have d4:decide (6<(n:Int))=false:=aep (by omega);have d5:decide (6<n)=false:=aep h6;have HF:Hid (R=if q=true then some {kind:=2,n:=n,rest:=AE.1,att:=AE.2} else none):=aen (by rw[HR.out,if_pos (by omega)]);clear HR;cases q
 ·have HF2:Hid (R=none):=aen (by rw[HF.out];rfl);clear HF;go_enter Tryz.func59,Tryz.ntmps59;go_wp2_with fail;with_reducible refine(HRn.out _).mono ?_
  rintro e w' ⟨rfl,b1⟩;obtain⟨HZ1,HB1⟩:=dI b1;clear b1;go_wp2_with fail;with_reducible refine(mV.out _).mono ?_
  rintro e w2 ⟨rfl,b2⟩;have HZ:=ZM.below HZ1 b2;have HB:=HB1.trans (b2.mono HB1.size);clear HZ1 HB1 b2;obtain⟨k0,k1,k2,k3,k4,k5,k6,k7,k8,k9,k10,y0,y1,y2,y3,y4,y5,y6,y7,y8,y9,aj⟩:=ZM.facts HZ;go_wp2_with fail;exact Ff (ax HZ _ _ _ _ _ _ _ _ _ _ _) rfl rfl rfl (eG HF2.out ⟨_,_,_,_,_,_,_,_,_,_,_,_,_,_,_,rfl⟩ (au HB (aeo _) _ _ _ _ _ _ _ _ _ _ _))
 ·have HF2:Hid (R=some {kind:=2,n:=n,rest:=AE.1,att:=AE.2}):=aen (by rw[HF.out];rfl);have Yl:=aen (dZ.out rfl);clear HF dZ;obtain⟨er,ea⟩:=AE;simp only at HF2;go_enter Tryz.func59,Tryz.ntmps59;go_wp2_with fail;with_reducible refine(HRn.out _).mono ?_
  rintro e w' ⟨rfl,b1⟩;obtain⟨HZ1,HB1⟩:=dI b1;clear b1;go_wp2_with fail;with_reducible refine(mV.out _).mono ?_
  rintro e w2 ⟨rfl,b2⟩;have HZ2:=ZM.below HZ1 b2;have HB2:=HB1.trans (b2.mono HB1.size);clear HZ1 HB1 b2;go_wp2_with fail;with_reducible refine(Yl.out _).mono ?_
  rintro e w0 ⟨rfl,rfl⟩;go_wp2_with fail;with_reducible refine(JJ.out _).mono ?_
  rintro e w3 ⟨vC,vP,rfl,hO,b3⟩;obtain⟨qA,qc,rfl⟩:=ay hO.cls;obtain⟨qD,qd,rfl⟩:=ay hO.aH;simp only at hO;have HZ3:ZM (w3.alloc (.cells #[.string ea.id,.slice qA ea.cl.length qc,.slice qD ea.pr.length qd] 43)) w.heap.size:=ae.alloc (ZM.below HZ2 b3) _;have HB3:=(HB2.trans (b3.mono HB2.size)).alloc (aev HB2.size b3.size) (.cells #[.string ea.id,.slice qA ea.cl.length qc,.slice qD ea.pr.length qd] 43);have yg:Hid (aZ (w3.alloc (.cells #[.string ea.id,.slice qA ea.cl.length qc,.slice qD ea.pr.length qd] 43)) w2.heap.size ea (.slice qA ea.cl.length qc) (.slice qD ea.pr.length qd)):=aen (hO.below ((aer _ _).alloc (aeo _) _));have hlt:w.heap.size<w2.heap.size:=HZ2.lt;have vw:=ae.new w3 43 #[.string ea.id,.slice qA ea.cl.length qc,.slice qD ea.pr.length qd];have e0:=vw.cell 0;have e1:=vw.cell 1;have e2:=vw.cell 2;clear HZ2 hO b3 vw;obtain⟨k0,k1,k2,k3,k4,k5,k6,k7,k8,k9,k10,y0,y1,y2,y3,y4,y5,y6,y7,y8,y9,aj⟩:=ZM.facts HZ3;go_wp2_with fail;refine Ff (ax HZ3 _ _ _ _ _ _ _ _ _ _ _) rfl rfl rfl (rd_some HF2.out (ql (m:={kind:=2,n:=n,rest:=er,att:=ea}) ?_) (au HB3 (aeo _) _ _ _ _ _ _ _ _ _ _ _));exact dN (dR yg.out (aV _ _ _ _ _ _ _ _ _ _ _ _ _) hlt) HB2.size
end
end Go.Proofs.YtpoafhgbhnblmaaGreatDoor
