import Derived.Test.YtpoafhgbhnblmaaGreatDoorF10
import Derived.Test.YtpoafhgbhnblmaaGreatDoorF04
import Derived.Deep.DeepCutAuto
import Derived.StillTailTactics
set_option linter.unusedVariables false
set_option linter.unusedSimpArgs false
set_option maxRecDepth 100000
set_option maxHeartbeats 20000000
namespace Go.Proofs.YtpoafhgbhnblmaaGreatDoor
open Go.Proofs.Tryz (prog)
open Go.RowKit
def aF(s:ByteArray):Bool:=decide (ah s 0=s.size)
def aT(s:ByteArray)(n:Nat):ByteArray:=s.extract (min n (ah s 0)) s.size
theorem PV(s:ByteArray)(n:Nat):(aT s n).size≤s.size:=by unfold aT;rw[aex];omega
def fF(s:ByteArray):Bool:=decide (s.size=0)||decide (bt s 0=32)
def aA(s:ByteArray):ByteArray:=s.extract 1 s.size
theorem wR(s:ByteArray):(aA s).size=s.size - 1:=by unfold aA;rw[aex];omega
def lS(c:ByteArray)(ind:Nat):Option ag:=if bt c 0=62 then some {kind:=4,off:=ind+c.size - (aT (aA c) 1).size,rest:=aT (aA c) 1} else none
def oV(c:ByteArray)(ind:Nat):Option ag:=if bt c 0=45∨bt c 0=43∨bt c 0=42 then (if fF (aA c)=true then some {kind:=5,ch:=c.extract 0 1,off:=ind+2,rest:=aA (aA c)} else none) else none
def jL(c:ByteArray):Option ag:=if Lib.hasPrefix (bytesL c) [36,36]=true∧aF (c.extract 2 c.size)=true then some {kind:=8} else none
def xY(c:ByteArray)(n:Nat):Bool:=decide (3≤n)&&!(decide (bt c 0=96)&&(sfx c n).contains 96)
def kG(c:ByteArray)(ind:Nat):Option ag:=
 if bt c 0=96∨bt c 0=126 then (if xY c (aI c (· != bt c 0))=true then some {kind:=7,n:=aI c (· != bt c 0),ch:=c.extract 0 1,info:=mk (trimS (sfx c (aI c (· != bt c 0)))),off:=ind} else none) else none
theorem wS(s:ByteArray)(w:World)(hs:s.size≤1000000):Calls prog 57 #[.string s] w fun e w'=>e=.returned (.bool (aF s))∧w=w':=by
 have HI:=aen fun W=>zT s W hs;have HB:Hid (aF s=decide (ah s 0=s.size)):=aen rfl;generalize aF s=b at *;generalize ah s 0=i at *;have hb:∃q:Bool,(i==s.size)=q∧((i:Int)==(s.size:Int))=q∧Hid (b=q):=by
  by_cases h:i=s.size
  ·exact⟨true,by rw[beq_iff_eq];exact h,by rw[beq_iff_eq];omega,aen (by rw[HB.out];exact aeq h)⟩
  ·exact⟨false,by rw[aes];exact h,by rw[aes];omega,aen (by rw[HB.out];exact aep h)⟩
 obtain⟨q,n1,n2,hq⟩:=hb;go_enter Tryz.func57,Tryz.ntmps57;go_wp2_with fail;with_reducible refine(HI.out _).mono ?_
 rintro e w' ⟨rfl,rfl⟩;go_wp2_with fail;go_ret;exact⟨aJ (by rw[hq.out]),rfl⟩
theorem Fq(s:ByteArray)(n:Nat)(w:World)(hs:s.size≤1000000)(hn:n≤1000000):Calls prog 107 #[.string s,.int .i64 n] w fun e w'=>e=.returned (.string (aT s n))∧w=w':=by
 have HI:=aen fun W=>zT s W hs;have hl:=kC s;have HB:Hid (aT s n=s.extract (min n (ah s 0)) s.size):=aen rfl;generalize aT s n=b at *;generalize ah s 0=i at *;have mP:∀w:World,(Builtin.min_ #[3,3] 3 #[.int .i64 n,.int .i64 i]).run prog w=.ok (.int .i64 (min n i:Nat)) w:=fun w=>by
  rw[run_min_int2];congr 2;split <;> omega
 have hm:min n i≤s.size:=by omega
 generalize min n i=m at *;go_enter Tryz.func107,Tryz.ntmps107;go_wp2_with fail;with_reducible refine(HI.out _).mono ?_
 rintro e w' ⟨rfl,rfl⟩;go_wp2_with fail;go_ret;exact⟨dX (by rw[HB.out]),rfl⟩
theorem Fv(s:ByteArray)(w:World)(hs:s.size≤1000000):Calls prog 103 #[.string s] w fun e w'=>e=.returned (.tuple #[.string (aA s),.bool (fF s)])∧Below w.heap.size w w':=by
 by_cases h:s.size=0
 ·have e0:s=⟨#[]⟩:=by
   have:=(size_nil s).1 h;rw[←eX s,this];rfl
  subst e0;go_enter Tryz.func103,Tryz.ntmps103;go_wp2_with fail;go_ret2;exact⟨rfl,aer _ _⟩
 ·have hl:1≤s.size:=by omega
  have hb:fF s=decide (bt s 0=32):=by unfold fF;rw[aep h];rfl
  obtain⟨e1,e2⟩:=iV s (fun e=>h ((size_nil s).2 e));have e3:(s.toList==(⟨#[]⟩:ByteArray).toList)=false:=by
   rw[Lib.bytes_beq_false_iff];intro e;subst e;exact h rfl
  have hg:=get_bt s 0 hl;have hx:∃q:Bool,((bt s 0:Int)==32)=q∧Hid (fF s=q):=by
   by_cases h3:bt s 0=32
   ·exact⟨true,by rw[h3];rfl,aen (by rw[hb];exact aeq h3)⟩
   ·exact⟨false,by rw[aes];omega,aen (by rw[hb];exact aep h3)⟩
  clear hb;obtain⟨q,q1,q2⟩:=hx;have HT:Hid (aA s=s.extract 1 s.size):=aen rfl;generalize aA s=T at *;go_enter Tryz.func103,Tryz.ntmps103;go_wp2_with fail;go_quiet (fail);go_wp2_with fail;go_ret2;exact⟨by rw[HT.out,q2.out];rfl,below_drewN (aer _ _) _⟩
theorem XH(c:ByteArray)(ind:Nat)(w:World)(hs:c.size≤1000000)(h0:0<c.size)(hi:ind≤3):Calls prog 61 #[.string c,.int .i64 ind] w (oQ (lS c ind) w):=by
 have hg:=get_bt c 0 h0;have h1:1≤c.size:=h0;have HZ:Hid (ZM (w.alloc (.cells #[.int .i64 0,.int .i64 0,.string ⟨#[]⟩,.int .i64 0,.string ⟨#[]⟩,.string ⟨#[]⟩,.string ⟨#[]⟩,.string ⟨#[]⟩,.string ⟨#[]⟩,.slice none 0 0,.slice none 0 0] 74)) w.heap.size):=aen (ae.new w _ _);have HB0:Hid (Below w.heap.size w (w.alloc (.cells #[.int .i64 0,.int .i64 0,.string ⟨#[]⟩,.int .i64 0,.string ⟨#[]⟩,.string ⟨#[]⟩,.string ⟨#[]⟩,.string ⟨#[]⟩,.string ⟨#[]⟩,.slice none 0 0,.slice none 0 0] 74))):=aen ((aer _ w).alloc (aeo _) _);have HT:Hid (aA c=c.extract 1 c.size):=aen rfl;have hts:=wR c;have HS:Hid (∀W,Calls prog 107 #[.string (aA c),.int .i64 1] W fun e w'=>e=.returned (.string (aT (aA c) 1))∧W=w'):=aen fun W=>Fq (aA c) 1 W (by omega) (by omega);have hss:=PV (aA c) 1;have HR:Hid (lS c ind=if bt c 0=62 then some {kind:=4,off:=ind+c.size - (aT (aA c) 1).size,rest:=aT (aA c) 1} else none):=aen rfl;generalize lS c ind=R at *;rw[HT.out] at *;generalize aT (c.extract 1 c.size) 1=S at *;by_cases hq:bt c 0=62
 ·have z1:(((bt c 0:Nat):Int) != 62)=false:=by rw[hq];rfl
  have HF:Hid (R=some {kind:=4,off:=ind+c.size - S.size,rest:=S}):=aen (by rw[HR.out,if_pos hq]);clear HR hq;obtain⟨o,ho⟩:∃o,o=ind+c.size - S.size:=⟨_,rfl⟩;have hoi:(ind:Int)+(c.size:Int) - (S.size:Int)=(o:Int):=by omega
  rw[←ho] at HF;clear ho;go_enter Tryz.func61,Tryz.ntmps61;go_wp2_with fail;with_reducible refine(HS.out _).mono ?_
  rintro e w' ⟨rfl,rfl⟩;go_wp2_with fail;exact PO (ae.new w _ _) rfl rfl rfl (rd_some HF.out (fE (m:={kind:=4,off:=o,rest:=S}) rfl ((aer _ w).alloc (aeo _) _).size) ((aer _ w).alloc (aeo _) _))
 ·have z1:(((bt c 0:Nat):Int) != 62)=true:=by rw[aeB];omega
  have HF:Hid (R=none):=aen (by rw[HR.out,if_neg hq]);clear HR hq;go_enter Tryz.func61,Tryz.ntmps61;go_wp2_with fail;exact PO (ae.new w _ _) rfl rfl rfl (eG HF.out ⟨_,_,_,_,_,_,_,_,_,_,_,_,_,_,_,rfl⟩ ((aer _ w).alloc (aeo _) _))
theorem Fz(s:ByteArray)(k:Nat)(w:World)(hs:s.size≤1000000)(hk:k<s.size) :
 Calls prog 167 #[.string s,.int .i64 k] w fun e w'=>e=.returned (.bool (dJ s k))∧w=w':=by
 have hlt2:((s[k].toNat:Nat):Int)<256:=by rw[get_bt s k hk];have:=aK s k;omega
 by_cases h0:bt s k=92
 ·have z0:(((s[k].toNat:Nat):Int)==92)=true:=by rw[get_bt s k hk,h0];rfl
  by_cases h1:k+1<s.size
  ·have HE:=aen (IJ s k h1);have hlt3:((s[k+1].toNat:Nat):Int)<256:=by rw[get_bt s (k+1) h1];have:=aK s (k+1);omega
   have hbi:=aen (oJ s (k+1) h1);have H0:=aen h0;clear h0;generalize dJ s k=E at *;by_cases h2:bt s (k+1)<128
   ·have z2:((s[k+1].toNat:Nat):Int)<128:=by rw[get_bt s (k+1) h1];omega
    have HR:Hid (E=inB (bt s (k+1):Int) qP):=aen (by rw[HE.out,H0.out,aeq h2];simp);go_enter Tryz.func167,Tryz.ntmps167;go_wp2_with (go_at_call 211;refine(Vy _ _).mono ?_;rintro e w' ⟨rfl,rfl⟩);go_ret;exact⟨aJ (by rw[HR.out,hbi.out]),rfl⟩
   ·have z2:128≤((s[k+1].toNat:Nat):Int):=by rw[get_bt s (k+1) h1];omega
    have HR:Hid (E=false):=aen (by rw[HE.out,aep h2];simp);go_enter Tryz.func167,Tryz.ntmps167;go_wp2;go_ret;exact⟨aJ (by rw[HR.out]),rfl⟩
  ·have HR:=aen (II s k (by omega));generalize dJ s k=E at *;go_enter Tryz.func167,Tryz.ntmps167;go_wp2;go_ret;exact⟨aJ (by rw[HR.out]),rfl⟩
 ·have z0:(((s[k].toNat:Nat):Int)==92)=false:=by rw[get_bt s k hk,aes];omega
  have HR:=aen (N6 s k h0);generalize dJ s k=E at *;go_enter Tryz.func167,Tryz.ntmps167;go_wp2;go_ret;exact⟨aJ (by rw[HR.out]),rfl⟩
theorem XI(s:ByteArray)(w:World)(hs:s.size≤1000000):Calls prog 168 #[.string s] w fun e w'=>e=.returned (.string (mk (bK (bytesL s))))∧Below w.heap.size w w':=by
 have HX:Hid (bK (sfx s 0)=bK (bytesL s)):=aen rfl;generalize bK (bytesL s)=R at *;go_enter Tryz.func168,Tryz.ntmps168;go_wp2;go_loopw [4] (fun v wr=>VQ s R w v wr) (fun v _=>s.size - (intOf v).toNat);case atStart=>exact⟨0,[],rfl,by omega,Lib.IsBuilderF.of (Lib.fresh_isBuilder 158 5 w),(aer _ w).alloc (aeo _) _,HX,by simp,by simp⟩
 case round=>
  obtain⟨k,acc,rfl,hk,hI,hbw,aY,hal,hsz⟩:=hrel;by_cases hlt:k<s.size
  ·have HC:=aen fun W=>Fz s k W hs hlt;by_cases hE:dJ s k=true
   ·have hk1:k+1<s.size:=(oL hE).1;have hst:=aen (N9 s k hE);have hlt2:((s[k+1].toNat:Nat):Int)<256:=by rw[get_bt s (k+1) hk1];have:=aK s (k+1);omega
    have hbi:=aen (oJ s (k+1) hk1);rw[hE] at HC;clear hE;go_wp2_with fail;with_reducible refine(HC.out _).mono ?_
    rintro e w' ⟨rfl,rfl⟩;go_wp2_with fail;refine(zM w.heap.size w.heap.size _ _ _ hI (by rw[Lib.byteCells_length];omega) (by omega)).mono ?_;rintro e W1 ⟨rfl,h1,b1,_⟩;have hz1:=b1.size;go_wp2;go_roundw;case rel=>
     refine⟨k+2,acc++[s.get! (k+1)],by go_num,by omega,by rw[Lib.byteCells_append,EN,←hbi.out];exact Or.inr h1,hbw.trans b1,aen (by rw[←aY.out,hst.out];simp),by simp;omega,by omega⟩
    case measure=>simp[intOf];omega
   ·rw[Bool.not_eq_true] at hE;have hst:=aen (Oa s k hlt hE);have hlt2:((s[k].toNat:Nat):Int)<256:=by rw[get_bt s k hlt];have:=aK s k;omega
    have hbi:=aen (oJ s k hlt);rw[hE] at HC;clear hE;go_wp2_with fail;with_reducible refine(HC.out _).mono ?_
    rintro e w' ⟨rfl,rfl⟩;go_wp2_with fail;refine(zM w.heap.size w.heap.size _ _ _ hI (by rw[Lib.byteCells_length];omega) (by omega)).mono ?_;rintro e W1 ⟨rfl,h1,b1,_⟩;have hz1:=b1.size;go_wp2;go_roundw;case rel=>
     refine⟨k+1,acc++[s.get! k],by go_num,by omega,by rw[Lib.byteCells_append,EN,←hbi.out];exact Or.inr h1,hbw.trans b1,aen (by rw[←aY.out,hst.out];simp),by simp;omega,by omega⟩
    case measure=>simp[intOf];omega
  ·have HR:Hid (acc=R):=aen (by rw[←aY.out,N8 s k (by omega),List.append_nil]);go_wp2_with fail;refine(Tryz.Builder_String_any_k w.heap.size w.heap.size acc _ hI (by omega)).mono ?_;rintro e W1 ⟨rfl,h1,b1,_⟩;go_wp2;go_ret;exact⟨dX (by rw[HR.out];rfl),hbw.trans b1⟩
theorem Jy(s:ByteArray)(i k:Nat)(w:World)(hs:s.size≤1000000):Calls prog 168 #[.string (s.extract i k)] w fun e w'=>e=.returned (.string (mk (bK (sub s i k))))∧Below w.heap.size w w':=by
 have h:=XI (s.extract i k) w (by have:(s.extract i k).size≤s.size:=(by rw[aex];omega);omega);rw[bytesL_sub] at h;exact h
theorem XJ(s:ByteArray)(w:World)(hs:s.size≤1000000) :
 Calls prog 112 #[.string s] w fun e w'=>e=.returned (.string (mk (dK (bytesL s))))∧Below w.heap.size w w':=by
 have HC:=aen fun W=>VT s W hs;have hR:dK (bytesL s)=if 60<(kV s).length then [] else if (pts (mk (kV s))).all fun p=>iH p.1 then kV s else []:=by unfold dK;rw[eX]
 have HR:=aen hR;clear hR;generalize dK (bytesL s)=R at *;generalize kV s=F at *;obtain⟨g,hg⟩:∃g:ByteArray,g=mk F:=⟨_,rfl⟩;have HG:Hid (mk F=g):=aen hg.symm;have hgs:g.size=F.length:=by rw[hg];show F.toArray.size=_;simp
 have xZ:Hid (∀W,Calls prog 99 #[.string s] W fun e w'=>e=.returned (.string g)∧Below W.heap.size W w'):=aen (by rw[hg];exact HC.out);clear HC hg;by_cases hl:60<g.size
 ·have HF:Hid (R=[]):=aen (by rw[HR.out,if_pos (by omega)]);clear hgs;go_enter Tryz.func112,Tryz.ntmps112;go_wp2_with fail;with_reducible refine(xZ.out _).mono ?_
  rintro e w1 ⟨rfl,b1⟩;go_wp2;go_ret;exact⟨dX (by rw[HF.out];rfl),b1⟩
 ·have HR2:Hid (R=if (pts g).all (fun p=>iH p.1) then F else []):=aen (by rw[HR.out,if_neg (by omega),HG.out]);have zl:decide (60<(g.size:Int))=false:=by simp;omega
  clear hgs HR;go_enter Tryz.func112,Tryz.ntmps112;go_wp2_with fail;with_reducible refine(xZ.out _).mono ?_
  rintro e w1 ⟨rfl,b1⟩;have hz1:=b1.size;go_wp2;go_loopw [] (fun wr=>Og g w w1 (.string g) wr) (fun wr=>g.size - wr.iterPos w1.heap.size);case atStart=>
   exact⟨0,g.size,[],rfl,World.iter_heap w1 g 0,b1.alloc hz1 _,aen rfl,aen rfl,by omega,by omega⟩
  case round=>
   obtain⟨pos,f,acc,_,hit,hbw,aY,uN,hf,hps⟩:=hrel;by_cases hp:pos<g.size
   ·have hd:=Bq g pos hp;have hall:Hid (pts g=(acc++[Utf8.decode g pos])++ku g (f - 1) (pos+(Utf8.decode g pos).2)):=aen (by rw[←aY.out,EG g f pos hp hf];simp);have hnx:∀ty,(Instr.next (.pointer (some ⟨w1.heap.size,0,none⟩)) true ty).run prog wr=_:=fun ty=>Lib.run_next_any_at wr w1.heap.size g pos ty hit hp;have hit2:=aen (Lib.iterAt_heap wr w1.heap.size g pos (pos+(Utf8.decode g pos).2) hit);have hbw2:=Lib.below_iterAt hbw (k:=w1.heap.size) hz1 g (pos+(Utf8.decode g pos).2);have xE:=aen hit;clear hit;generalize Utf8.decode g pos=D at *;have HL:Hid (∀W,Calls prog 100 #[.int .i64 D.1] W fun e w'=>e=.returned (.bool (inB D.1 kW))∧W=w'):=aen fun W=>Vz D.1 W;have HD:Hid (∀W,Calls prog 101 #[.int .i64 D.1] W fun e w'=>e=.returned (.bool (lJ D.1))∧W=w'):=aen fun W=>Vr D.1 W;cases hlb:iH (D.1:Int)
    ·have HF:Hid (R=[]):=aen (by
      rw[HR2.out,hall.out,if_neg];simp only[List.all_append,List.all_cons,hlb];simp)
     obtain⟨y1,y2,y3,y4,y5,y6,y7⟩:=VV _ hlb;clear hlb;rw[y1] at HL;rw[y2] at HD;clear y1 y2;go_wp2_with fail;with_reducible refine(HL.out _).mono ?_
     rintro e w' ⟨rfl,rfl⟩;go_wp2_with fail;with_reducible refine(HD.out _).mono ?_
     rintro e w' ⟨rfl,rfl⟩;go_wp2;go_ret;exact⟨dX (by rw[HF.out];rfl),hbw2⟩
    ·have dn:Hid (Og g w w1 (.string g) (wr.iterAt w1.heap.size g (pos+D.2))):=aen
      ⟨pos+D.2,f - 1,acc++[D],rfl,hit2.out,hbw2,aen hall.out.symm,aen (by rw[List.all_append,uN.out];simp[hlb]),by omega,by omega⟩
     have hy:=VU _ hlb;clear hlb;rcases hy with y1|⟨y1,y2|⟨y2,y3|⟨y3,y4|⟨y4,y5|⟨y5,y6|⟨y6,y7⟩⟩⟩⟩⟩⟩
     ·rw[y1] at HL;clear y1;go_wp2_with fail;with_reducible refine(HL.out _).mono ?_
      rintro e w' ⟨rfl,rfl⟩;go_wp2;go_roundw;case rel=>exact dn.out
      case measure=>
       simp only[World.iterPos,hit2.out,xE.out];omega
     all_goals
      rw[y1] at HL;rw[y2] at HD;clear y1 y2;go_wp2_with fail;with_reducible refine(HL.out _).mono ?_
      rintro e w' ⟨rfl,rfl⟩;go_wp2_with fail;with_reducible refine(HD.out _).mono ?_
      rintro e w' ⟨rfl,rfl⟩;go_wp2;go_roundw;case rel=>exact dn.out
      case measure=>
       simp only[World.iterPos,hit2.out,xE.out];omega
   ·have hnx:∀ty,(Instr.next (.pointer (some ⟨w1.heap.size,0,none⟩)) true ty).run prog wr=_:=fun ty=>Lib.run_next_end_at wr w1.heap.size g pos ty hit hp;have HF:Hid (R=F):=aen (by rw[HR2.out,if_pos];rw[←aY.out,EF g f pos hp,List.append_nil];exact uN.out);go_wp2;go_ret;exact⟨dX (by rw[HF.out];exact HG.out.symm),hbw⟩
theorem XK(s:ByteArray)(w:World)(hs:s.size≤1000000)(hi:0<s.size) :
 Calls prog 166 #[.string s] w (uQ (dY s 0 62 60) w):=by
 have HS:Hid (∀k,bY s 62 60 (1)=some k→dY s 0 62 60=some (bK (sub s (1) k),k+1)):=aen fun k h=>by rw[show dY s 0 62 60=(bY s 62 60 1).map fun k=>(bK (sub s 1 k),k+1) from rfl,h];rfl
 have HN:Hid (bY s 62 60 (1)=none→dY s 0 62 60=none):=aen fun h=>by rw[show dY s 0 62 60=(bY s 62 60 1).map fun k=>(bK (sub s 1 k),k+1) from rfl,h];rfl
 generalize dY s 0 62 60=R at *;go_enter Tryz.func166,Tryz.ntmps166;go_wp2;go_loop [5] (fun v=>∃k:Nat,1≤k∧k≤s.size∧v=.int .i64 k∧Hid (bY s 62 60 k=bY s 62 60 (1))) (fun v=>s.size - (intOf v).toNat);case atStart=>exact⟨1,by omega,by omega,rfl,aen rfl⟩
 case round=>
  obtain⟨k,hk1,hk,rfl,Hk⟩:=hrel;by_cases hlt:k<s.size
  ·have HC:=aen fun W=>Fz s k W hs hlt;have hlt2:((s[k].toNat:Nat):Int)<256:=by rw[get_bt s k hlt];have:=aK s k;omega
   by_cases hE:dJ s k=true
   ·have hk2:k+1<s.size:=(oL hE).1;have hst:Hid (bY s 62 60 (k+2)=bY s 62 60 (1)):=aen (by rw[←Hk.out];exact(IQ s 62 60 k (by decide) (by decide) (by decide) (by decide) hE).symm);rw[hE] at HC;clear hE;go_wp2_with fail;with_reducible refine(HC.out _).mono ?_
    rintro e w' ⟨rfl,rfl⟩;go_wp2;go_round;case rel=>exact⟨k+2,by omega,by omega,by go_num,hst⟩
    case measure=>simp[intOf];omega
   ·rw[Bool.not_eq_true] at hE;have HE:=aen hE;rw[hE] at HC;clear hE;by_cases c1:bt s k=62
    ·have z1:(((s[k].toNat:Nat):Int)==62)=true:=by rw[get_bt s k hlt,c1];rfl
     have HR:Hid (R=some (bK (sub s (1) k),k+1)):=aen (HS.out k (by rw[←Hk.out];exact IM s 62 60 k hlt (by decide) c1));have HU:=aen fun W=>Jy s (1) k W hs;clear c1;go_wp2_with fail;with_reducible refine(HC.out _).mono ?_
     rintro e w' ⟨rfl,rfl⟩;go_wp2_with fail;with_reducible refine(HU.out _).mono ?_
     rintro e w' ⟨rfl,b1⟩;go_wp2;go_ret3;exact EO HR.out (by omega) b1
    ·have z1:(((s[k].toNat:Nat):Int)==62)=false:=by rw[get_bt s k hlt,aes];omega
     by_cases c2:bt s k=60∨bt s k=10
     ·have HR:Hid (R=none):=aen (HN.out (by rw[←Hk.out];exact IP s 62 60 k hlt (by decide) (by decide) c1 c2));have cc:(((s[k].toNat:Nat):Int)==60)=true∨((((s[k].toNat:Nat):Int)==60)=false∧(((s[k].toNat:Nat):Int)==10)=true):=by
       rw[get_bt s k hlt];rcases c2 with c|c
       ·left;rw[c];rfl
       ·right;rw[c];exact⟨rfl,rfl⟩
      clear c1 c2;rcases cc with z2|⟨z2,z3⟩;all_goals
       go_wp2_with fail;with_reducible refine(HC.out _).mono ?_
       rintro e w' ⟨rfl,rfl⟩;go_wp2;go_ret3;exact sS HR.out (aer _ _)
     ·have z2:(((s[k].toNat:Nat):Int)==60)=false:=by rw[get_bt s k hlt,aes];omega
      have z3:(((s[k].toNat:Nat):Int)==10)=false:=by rw[get_bt s k hlt,aes];omega
      have hst:Hid (bY s 62 60 (k+1)=bY s 62 60 (1)):=aen (by rw[←Hk.out];exact(IU s 62 60 k hlt (by decide) (by decide) c1 (by omega) (by omega) HE.out).symm);clear c1 c2;go_wp2_with fail;with_reducible refine(HC.out _).mono ?_
      rintro e w' ⟨rfl,rfl⟩;go_wp2;go_round;case rel=>exact⟨k+1,by omega,by omega,by go_num,hst⟩
      case measure=>simp[intOf];omega
  ·have HR:Hid (R=none):=aen (HN.out (by rw[←Hk.out];exact IK s 62 60 k (by omega)));go_wp2;go_ret3;exact sS HR.out (aer _ _)
theorem XL(s:ByteArray)(q:Nat)(w:World)(hs:s.size≤1000000)(hi:0<s.size)(hq:q=34∨q=39)(hq0:bt s 0=q) :
 Calls prog 115 #[.string s] w (uQ (dY s 0 q q) w):=by
 have HS:Hid (∀k,bY s q q (1)=some k→dY s 0 q q=some (bK (sub s (1) k),k+1)):=aen fun k h=>by rw[show dY s 0 q q=(bY s q q 1).map fun k=>(bK (sub s 1 k),k+1) from rfl,h];rfl
 have HN:Hid (bY s q q (1)=none→dY s 0 q q=none):=aen fun h=>by rw[show dY s 0 q q=(bY s q q 1).map fun k=>(bK (sub s 1 k),k+1) from rfl,h];rfl
 generalize dY s 0 q q=R at *;have hq1:q<256∧q≠92∧q≠10:=by omega
 have hg0:s[0].toNat=q:=by rw[get_bt s 0 hi,hq0]
 have hqq:(((q:Nat):Int) != 34)=false∨((((q:Nat):Int) != 34)=true∧(((q:Nat):Int) != 39)=false):=by
  rcases hq with h|h
  ·left;rw[h];rfl
  ·right;rw[h];exact⟨rfl,rfl⟩
 obtain⟨x1,x2⟩:=iV s (fun e=>by have:=(size_nil s).2 e;omega);clear hq hq0;go_enter Tryz.func115,Tryz.ntmps115;go_upto_region 1 with fail
 go_cut [17] (fun Jz wx=>Jz=.bool false∧w=wx);case first=>
  rcases hqq with z|⟨z,z'⟩;all_goals
   go_wp2_with fail;go_meet;exact⟨rfl,rfl⟩
 case rest=>
 obtain⟨rfl,rfl⟩:=hcut;clear hqq;go_wp2_with fail;go_loopw [5] (fun v wr=>∃k:Nat,1≤k∧k≤s.size∧v=.int .i64 k∧Hid (bY s q q k=bY s q q 1)∧Below w.heap.size w wr) (fun v _=>s.size - (intOf v).toNat);case atStart=>exact⟨1,by omega,by omega,rfl,aen rfl,aer _ _⟩
 case round=>
  obtain⟨k,hk1,hk,rfl,Hk,hbw⟩:=hrel;have bT:=aen hbw;clear hbw;by_cases hlt:k<s.size
  ·have HC:=aen fun W=>Fz s k W hs hlt;have hlt2:((s[k].toNat:Nat):Int)<256:=by rw[get_bt s k hlt];have:=aK s k;omega
   by_cases hE:dJ s k=true
   ·have hk2:k+1<s.size:=(oL hE).1;have hst:Hid (bY s q q (k+2)=bY s q q (1)):=aen (by rw[←Hk.out];exact(IQ s q q k hq1.1 hq1.1 hq1.2.1 hq1.2.1 hE).symm);rw[hE] at HC;clear hE;go_wp2_with fail;with_reducible refine(HC.out _).mono ?_
    rintro e w' ⟨rfl,rfl⟩;go_wp2;go_roundw;case rel=>exact⟨k+2,by omega,by omega,by go_num,hst,bT.out⟩
    case measure=>simp[intOf];omega
   ·rw[Bool.not_eq_true] at hE;have HE:=aen hE;rw[hE] at HC;clear hE;by_cases c1:bt s k=q
    ·have z1:(((s[k].toNat:Nat):Int)==(q:Int))=true:=by rw[get_bt s k hlt,c1];simp
     have z1':(s[k].toNat==q)=true:=by rw[get_bt s k hlt,c1];simp
     have HR:Hid (R=some (bK (sub s (1) k),k+1)):=aen (HS.out k (by rw[←Hk.out];exact IM s q q k hlt hq1.1 c1));have HU:=aen fun W=>Jy s (1) k W hs;clear c1;go_wp2_with fail;with_reducible refine(HC.out _).mono ?_
     rintro e w' ⟨rfl,rfl⟩;go_wp2_with fail;go_quiet (fail);go_wp2_with fail;with_reducible refine(HU.out _).mono ?_
     rintro e w' ⟨rfl,b1⟩;go_wp2;go_ret3;exact EO HR.out (by omega) ((below_drewN bT.out _).trans (b1.mono bT.out.size))
    ·have z1:(((s[k].toNat:Nat):Int)==(q:Int))=false:=by rw[get_bt s k hlt,aes];omega
     have z1':(s[k].toNat==q)=false:=by rw[get_bt s k hlt,aes];omega
     by_cases c2:bt s k=10
     ·have HR:Hid (R=none):=aen (HN.out (by rw[←Hk.out];exact IP s q q k hlt hq1.1 hq1.1 c1 (Or.inr c2)));have z2:(((s[k].toNat:Nat):Int)==10)=true:=by rw[get_bt s k hlt,c2];rfl
      clear c1 c2;go_wp2_with fail;with_reducible refine(HC.out _).mono ?_
      rintro e w' ⟨rfl,rfl⟩;go_wp2_with fail;go_quiet (fail);go_wp2;go_ret3;exact sS HR.out (below_drewN bT.out _)
     ·have z3:(((s[k].toNat:Nat):Int)==10)=false:=by rw[get_bt s k hlt,aes];omega
      have hst:Hid (bY s q q (k+1)=bY s q q (1)):=aen (by rw[←Hk.out];exact(IU s q q k hlt hq1.1 hq1.1 c1 c1 c2 HE.out).symm);clear c1 c2;go_wp2_with fail;with_reducible refine(HC.out _).mono ?_
      rintro e w' ⟨rfl,rfl⟩;go_wp2_with fail;go_quiet (fail);go_wp2;go_roundw;case rel=>exact⟨k+1,by omega,by omega,by go_num,hst,below_drewN bT.out _⟩
      case measure=>simp[intOf];omega
  ·have HR:Hid (R=none):=aen (HN.out (by rw[←Hk.out];exact IK s q q k (by omega)));go_wp2;go_ret3;exact sS HR.out bT.out
theorem XM(s:ByteArray)(w:World)(hs:s.size≤1000000):Calls prog 115 #[.string s] w (uQ (dD s 0) w):=by
 by_cases h0:s.size=0
 ·have hR:dD s 0=none:=by unfold dD;rw[if_neg (by omega)]
  have e0:s=⟨#[]⟩:=by rw[←eX s,(size_nil s).1 h0];rfl
  subst e0;go_enter Tryz.func115,Tryz.ntmps115;go_wp2_with fail;go_ret3;exact sS hR (aer _ _)
 ·have hi:0<s.size:=by omega
  by_cases hq:bt s 0=34∨bt s 0=39
  ·have hR:dD s 0=dY s 0 (bt s 0) (bt s 0):=by
    unfold dD;rw[if_pos ⟨by omega,by omega⟩,show ((0:Int).toNat)=0 from rfl];rcases hq with h|h
    ·rw[if_pos h,h]
    ·rw[if_neg (by omega),if_pos h,h]
   rw[hR];exact XL s (bt s 0) w hs hi hq rfl
  ·have hR:dD s 0=none:=by
    unfold dD;rw[if_pos ⟨by omega,by omega⟩,show ((0:Int).toNat)=0 from rfl,if_neg (fun h=>hq (Or.inl h)),if_neg (fun h=>hq (Or.inr h))]
   have hg0:=get_bt s 0 hi;have z1:(((bt s 0:Nat):Int) != 34)=true:=by rw[aeB];omega
   have z2:(((bt s 0:Nat):Int) != 39)=true:=by rw[aeB];omega
   obtain⟨x1,x2⟩:=iV s (fun e=>by have:=(size_nil s).2 e;omega);have HR:=aen hR;clear hR hq;generalize dD s 0=R at *;go_enter Tryz.func115,Tryz.ntmps115;go_wp2_with fail;go_ret3;exact sS HR.out (aer _ _)
theorem XN(s:ByteArray)(w:World)(hs:s.size≤1000000)(hi:0<s.size)(h:bt s 0=60) :
 Calls prog 114 #[.string s] w (uQ (bI s 0) w):=by
 have HC:Hid (∀W,Calls prog 166 #[.string s] W (uQ (bI s 0) W)):=aen fun W=>by
  have e:bI s 0=dY s 0 62 60:=by unfold bI;rw[if_pos ⟨by omega,by omega⟩,show ((0:Int).toNat)=0 from rfl,if_pos h]
  rw[e];exact XK s W hs hi
 generalize bI s 0=R at *;have z0:(((s[0].toNat:Nat):Int)==60)=true:=by rw[get_bt s 0 hi,h];rfl
 obtain⟨x1,x2⟩:=iV s (fun e=>by have:=(size_nil s).2 e;omega);clear h;cases R with
 |none=>
  go_enter Tryz.func114,Tryz.ntmps114;go_wp2_with fail;with_reducible refine(HC.out _).mono ?_
  rintro e w' ⟨rfl,b1⟩;go_wp2;go_ret3;exact sS rfl b1
 |some p=>
  go_enter Tryz.func114,Tryz.ntmps114;go_wp2_with fail;with_reducible refine(HC.out _).mono ?_
  rintro e w' ⟨rfl,b1⟩;go_wp2;go_ret3;exact EO rfl rfl b1
theorem XO(s:ByteArray)(w:World)(hs:s.size≤1000000)(hi:0<s.size)(h:bt s 0≠60) :
 Calls prog 114 #[.string s] w (uQ (bI s 0) w):=by
 have e:bI s 0=(bM s 0 0).bind fun k=>if k=0 then none else some (bK (sub s 0 k),k):=by unfold bI;rw[if_pos ⟨by omega,by omega⟩,show ((0:Int).toNat)=0 from rfl,if_neg h]
 have HS:Hid (∀k,k≠0→bM s 0 0=some k→bI s 0=some (bK (sub s 0 k),k)):=aen fun k hk hd=>by rw[e,hd];exact if_neg hk
 have HN:Hid (bM s 0 0=none→bI s 0=none):=aen fun hd=>by rw[e,hd];rfl
 have HI:Hid (bM s 0 0=some 0→bI s 0=none):=aen fun hd=>by rw[e,hd];rfl
 clear e;generalize bI s 0=R at *;have z0:(((s[0].toNat:Nat):Int)==60)=false:=by rw[get_bt s 0 hi,aes];omega
 obtain⟨x1,x2⟩:=iV s (fun e=>by have:=(size_nil s).2 e;omega);clear h;go_enter Tryz.func114,Tryz.ntmps114;go_wp2;go_loop [5,6] (fun a b=>VR s 0 a b) (fun _ b=>s.size - (intOf b).toNat);case atStart=>exact⟨0,0,by omega,by omega,by omega,rfl,rfl,aen rfl⟩
 case round=>
  obtain⟨o,k,ho,hk1,hk,rfl,rfl,Hk⟩:=hrel;by_cases hx:s.size≤k∨(k<s.size∧nS s o k)
  ·have hv:bM s o k=if o=0 then some k else none:=by
    rcases hx with hx|⟨hx,hy⟩
    ·exact NT s o k hx
    ·exact NU s o k hx hy
   have HV:=aen hv;clear hv;have hw:s.size≤k∨(∃hlt:k<s.size,(((s[k].toNat:Nat):Int)==32)=true)∨(∃hlt:k<s.size,(((s[k].toNat:Nat):Int)==32)=false∧(((s[k].toNat:Nat):Int)==10)=true)∨(∃hlt:k<s.size,(((s[k].toNat:Nat):Int)==32)=false∧(((s[k].toNat:Nat):Int)==10)=false∧(((s[k].toNat:Nat):Int)==41)=true∧o=0):=by
    rcases hx with hx|⟨hx,hy⟩
    ·exact Or.inl hx
    ·right;rcases hy with hy|hy|⟨hy,hz⟩
     ·left;exact⟨hx,by rw[get_bt s k hx,hy];rfl⟩
     ·right;left;exact⟨hx,by rw[get_bt s k hx,hy];exact⟨rfl,rfl⟩⟩
     ·right;right;exact⟨hx,by rw[get_bt s k hx,hy];exact⟨rfl,rfl,rfl,hz⟩⟩
   clear hx;by_cases e1:k=0∨0<o
   ·have HR:Hid (R=none):=aen (by
     by_cases h0:o=0
     ·obtain rfl:k=0:=by omega
      exact HI.out (by rw[←Hk.out,HV.out,if_pos h0])
     ·exact HN.out (by rw[←Hk.out,HV.out,if_neg h0]))
    have hE:(((k:Int)==0)=true∧(k==0)=true)∨(((k:Int)==0)=false∧(k==0)=false∧0<o):=by
     by_cases h0:k=0
     ·left;rw[h0];simp
     ·right;exact⟨by rw[aes];omega,by rw[aes];omega,by omega⟩
    clear e1;rcases hw with hw|⟨hlt,y1⟩|⟨hlt,y1,y2⟩|⟨hlt,y1,y2,y3,rfl⟩;all_goals
     rcases hE with ⟨x1,x3⟩|⟨x1,x3,x2⟩;all_goals
      first
      |omega
      |(go_wp2
        go_ret3;exact sS HR.out (aer _ _))
   ·obtain rfl:o=0:=by omega
    have HR:Hid (R=some (bK (sub s 0 k),k)):=aen (HS.out k (by omega) (by rw[←Hk.out,HV.out,if_pos rfl]));have x1:((k:Int)==0)=false:=by rw[aes];omega
    have x2:(k==0)=false:=by rw[aes];omega
    have HU:=aen fun W=>Jy s 0 k W hs;clear e1;rcases hw with hw|⟨hlt,y1⟩|⟨hlt,y1,y2⟩|⟨hlt,y1,y2,y3,_⟩;all_goals
     go_wp2_with fail;with_reducible refine(HU.out _).mono ?_
     rintro e w' ⟨rfl,b1⟩;go_wp2;go_ret3;exact EO HR.out rfl b1
  ·have hlt:k<s.size:=by omega
   have hns:¬nS s o k:=fun e=>hx (Or.inr ⟨hlt,e⟩);clear hx;have HC:=aen fun W=>Fz s k W hs hlt;have hlt2:((s[k].toNat:Nat):Int)<256:=by rw[get_bt s k hlt];have:=aK s k;omega
   have n32:bt s k≠32:=fun e=>hns (Or.inl e);have n10:bt s k≠10:=fun e=>hns (Or.inr (Or.inl e));have y1:(((s[k].toNat:Nat):Int)==32)=false:=by rw[get_bt s k hlt,aes];omega
   have y2:(((s[k].toNat:Nat):Int)==10)=false:=by rw[get_bt s k hlt,aes];omega
   by_cases hE:dJ s k=true
   ·obtain⟨hk2,JA⟩:=oL hE;have y3:(((s[k].toNat:Nat):Int)==41)=false:=by rw[get_bt s k hlt,aes];omega
    have hst:Hid (bM s o (k+2)=bM s 0 0):=aen (by rw[←Hk.out];exact(NV s o k hE).symm);rw[hE] at HC;clear hE n32 n10 hns JA;go_wp2_with fail;with_reducible refine(HC.out _).mono ?_
    rintro e w' ⟨rfl,rfl⟩;go_wp2;go_round;case rel=>exact⟨o,k+2,by omega,by omega,by omega,rfl,by go_num,hst⟩
    case measure=>simp[intOf];omega
   ·rw[Bool.not_eq_true] at hE;have HE:=aen hE;rw[hE] at HC;clear hE;by_cases c40:bt s k=40
    ·have y3:(((s[k].toNat:Nat):Int)==41)=false:=by rw[get_bt s k hlt,aes];omega
     have y4:(((s[k].toNat:Nat):Int)==40)=true:=by rw[get_bt s k hlt,c40];rfl
     have hst:=NW s o k hlt c40;have Ci:=aen hst;clear n32 n10 hns hst c40;by_cases h8:8≤o
     ·obtain rfl:o=8:=by omega
      have HR:Hid (R=none):=aen (HN.out (by rw[←Hk.out,Ci.out,if_pos h8]));go_wp2_with fail;with_reducible refine(HC.out _).mono ?_
      rintro e w' ⟨rfl,rfl⟩;go_wp2;go_ret3;exact sS HR.out (aer _ _)
     ·have hst:Hid (bM s (o+1) (k+1)=bM s 0 0):=aen (by rw[←Hk.out,Ci.out,if_neg h8]);go_wp2_with fail;with_reducible refine(HC.out _).mono ?_
      rintro e w' ⟨rfl,rfl⟩;go_wp2;go_round;case rel=>exact⟨o+1,k+1,by omega,by omega,by omega,by go_num,by go_num,hst⟩
      case measure=>simp[intOf];omega
    ·have y4:(((s[k].toNat:Nat):Int)==40)=false:=by rw[get_bt s k hlt,aes];omega
     by_cases nU:bt s k=41
     ·have y3:(((s[k].toNat:Nat):Int)==41)=true:=by rw[get_bt s k hlt,nU];rfl
      have ho0:0<o:=by
       rcases Nat.eq_zero_or_pos o with e|e
       ·exact absurd (Or.inr (Or.inr ⟨nU,e⟩)) hns
       ·exact e
      have y5:((o:Int)==0)=false:=by rw[aes];omega
      have hst:Hid (bM s (o - 1) (k+1)=bM s 0 0):=aen (by rw[←Hk.out,NY s o k hlt nU ho0]);clear n32 n10 hns c40 nU;go_wp2_with fail;with_reducible refine(HC.out _).mono ?_
      rintro e w' ⟨rfl,rfl⟩;go_wp2;go_round;case rel=>exact⟨o - 1,k+1,by omega,by omega,by omega,congrArg (Value.int .i64) (by omega),by go_num,hst⟩
      case measure=>simp[intOf];omega
     ·have y3:(((s[k].toNat:Nat):Int)==41)=false:=by rw[get_bt s k hlt,aes];omega
      have hst:Hid (bM s o (k+1)=bM s 0 0):=aen (by rw[←Hk.out,NZ s o k hlt hns HE.out c40 nU]);clear n32 n10 hns c40 nU;go_wp2_with fail;with_reducible refine(HC.out _).mono ?_
      rintro e w' ⟨rfl,rfl⟩;go_wp2;go_round;case rel=>exact⟨o,k+1,by omega,by omega,by omega,rfl,by go_num,hst⟩
      case measure=>simp[intOf];omega
theorem XP(s:ByteArray)(w:World)(hs:s.size≤1000000):Calls prog 114 #[.string s] w (uQ (bI s 0) w):=by
 by_cases h0:s.size=0
 ·have hR:bI s 0=none:=by unfold bI;rw[if_neg (by omega)]
  have e0:s=⟨#[]⟩:=by rw[←eX s,(size_nil s).1 h0];rfl
  subst e0;go_enter Tryz.func114,Tryz.ntmps114;go_wp2_with fail;go_ret3;exact sS hR (aer _ _)
 ·by_cases hc:bt s 0=60
  ·exact XN s w hs (by omega) hc
  ·exact XO s w hs (by omega) hc
def zw(w:World):World:=w.alloc (.cells #[.int .i64 0,.int .i64 0,.string ⟨#[]⟩,.int .i64 0,.string ⟨#[]⟩,.string ⟨#[]⟩,.string ⟨#[]⟩,.string ⟨#[]⟩,.string ⟨#[]⟩,.slice none 0 0,.slice none 0 0] 74)
theorem Cj(w:World):ZM (zw w) w.heap.size:=ae.new w _ _
theorem qi(w:World):Below w.heap.size w (zw w):=(aer _ w).alloc (aeo _) _
theorem qj(w:World):(zw w).heap.size=w.heap.size+1:=by unfold zw;simp
theorem ZM.below{W W':World}{g:Nat}(h:ZM W g)(hb:Below W.heap.size W W'):ZM W' g:=ae.below h hb (ae.lt h)
theorem dI{w w':World}(hb:Below (zw w).heap.size (zw w) w'):ZM w' w.heap.size∧Below w.heap.size w w':=⟨(Cj w).below hb,(qi w).trans (hb.mono (qi w).size)⟩
theorem XQ(c:ByteArray)(ind:Nat)(w:World)(hs:c.size≤1000000)(h0:0<c.size)(hi:ind≤3):Calls prog 62 #[.string c,.int .i64 ind] w (oQ (oV c ind) w):=by
 have hg:=get_bt c 0 h0;have h1:1≤c.size:=h0;have HT:Hid (aA c=c.extract 1 c.size):=aen rfl;have hts:=wR c;have HS:=aen fun W=>Fv (aA c) W (by omega);have HR:Hid (oV c ind=if bt c 0=45∨bt c 0=43∨bt c 0=42 then (if fF (aA c)=true then some {kind:=5,ch:=c.extract 0 1,off:=ind+2,rest:=aA (aA c)} else none) else none):=aen rfl;generalize oV c ind=R at *;have HC:Hid (c.extract 0 1=c.extract 0 1):=aen rfl;rw[HT.out] at *;generalize aA (c.extract 1 c.size)=S at *;generalize fF (c.extract 1 c.size)=b at *;have hoi:(ind:Int)+2=((ind+2:Nat):Int):=by omega
 obtain⟨o,ho⟩:∃o,o=ind+2:=⟨_,rfl⟩;rw[←ho] at HR hoi;clear ho;by_cases hq:bt c 0=45∨bt c 0=43∨bt c 0=42
 ·have HF:Hid (R=if b=true then some {kind:=5,ch:=c.extract 0 1,off:=o,rest:=S} else none):=aen (by rw[HR.out,if_pos hq]);clear HR;generalize bt c 0=a at *;rcases hq with rfl|rfl|rfl;all_goals
   go_enter Tryz.func62,Tryz.ntmps62;go_wp2_with fail;with_reducible refine(HS.out _).mono ?_
   rintro e w' ⟨rfl,b1⟩;obtain⟨HZ,HB⟩:=dI b1;obtain⟨k0,k1,k2,k3,k4,k5,k6,k7,k8,k9,k10,y0,y1,y2,y3,y4,y5,y6,y7,y8,y9,aj⟩:=ZM.facts HZ;go_wp2_with fail;exact PS (ax HZ _ _ _ _ _ _ _ _ _ _ _) rfl rfl rfl (wQ HF.out (fE (m:={kind:=5,ch:=c.extract 0 1,off:=o,rest:=S}) rfl (au HB (aeo _) _ _ _ _ _ _ _ _ _ _ _).size) (au HB (aeo _) _ _ _ _ _ _ _ _ _ _ _))
 ·have z1:(((bt c 0:Nat):Int) != 45)=true:=by rw[aeB];omega
  have z2:(((bt c 0:Nat):Int) != 43)=true:=by rw[aeB];omega
  have z3:(((bt c 0:Nat):Int) != 42)=true:=by rw[aeB];omega
  have HF:Hid (R=none):=aen (by rw[HR.out,if_neg hq]);clear HR hq;go_enter Tryz.func62,Tryz.ntmps62;go_wp2_with fail;exact PS (ae.new w _ _) rfl rfl rfl (eG HF.out ⟨_,_,_,_,_,_,_,_,_,_,_,_,_,_,_,rfl⟩ ((aer _ w).alloc (aeo _) _))
theorem XR(c:ByteArray)(ind:Nat)(w:World)(hs:c.size≤1000000)(h0:0<c.size):Calls prog 65 #[.string c,.int .i64 ind] w (oQ (jL c) w):=by
 have HP:Hid (∀W,Calls prog 108 #[.string c,.string ⟨#[36,36]⟩] W fun e w'=>e=.returned (.bool (Lib.hasPrefix (bytesL c) [36,36]))∧W=w'):=aen fun W=>(Tryz.strings_HasPrefix c ⟨#[36,36]⟩ W).mono fun e w' ⟨h,h'⟩=>⟨h,h'.symm⟩;have hsz:(c.extract 2 c.size).size≤1000000:=by rw[aex];omega
 have HB:=aen fun W=>wS (c.extract 2 c.size) W hsz;have HR:Hid (jL c=if Lib.hasPrefix (bytesL c) [36,36]=true∧aF (c.extract 2 c.size)=true then some {kind:=8} else none):=aen rfl;have hl:Lib.hasPrefix (bytesL c) [36,36]=true→2≤c.size:=fun h=>by
  have:[36,36] <+: bytesL c:=by simpa [Lib.hasPrefix] using h
  have:=this.length_le;rw[bytesL_length] at this;exact this
 generalize jL c=R at *;generalize aF (c.extract 2 c.size)=b at *;cases hp:Lib.hasPrefix (bytesL c) [36,36]
 ·rw[hp] at HP HR;have HF:Hid (R=if false=true then some {kind:=8} else none):=aen (by rw[HR.out];simp);clear HR hp hl;go_enter Tryz.func65,Tryz.ntmps65;go_wp2_with fail;with_reducible refine(HP.out _).mono ?_
  rintro e w' ⟨rfl,rfl⟩;go_wp2_with fail;exact PT (ae.new w _ _) rfl rfl rfl (wQ HF.out (fE (m:={kind:=8}) rfl ((aer _ w).alloc (aeo _) _).size) ((aer _ w).alloc (aeo _) _))
 ·have h2:=hl hp;rw[hp] at HP HR;have HF:Hid (R=if b=true then some {kind:=8} else none):=aen (by rw[HR.out];simp);clear HR hp hl;go_enter Tryz.func65,Tryz.ntmps65;go_wp2_with fail;with_reducible refine(HP.out _).mono ?_
  rintro e w' ⟨rfl,rfl⟩;go_wp2_with fail;with_reducible refine(HB.out _).mono ?_
  rintro e w' ⟨rfl,rfl⟩;go_wp2_with fail;exact PT (ae.new w _ _) rfl rfl rfl (wQ HF.out (fE (m:={kind:=8}) rfl ((aer _ w).alloc (aeo _) _).size) ((aer _ w).alloc (aeo _) _))
theorem XT(c:ByteArray)(ind:Nat)(w:World)(hs:c.size≤1000000)(h0:0<c.size)(hi:ind≤3):Calls prog 64 #[.string c,.int .i64 ind] w (oQ (kG c ind) w):=by
 have hg:=get_bt c 0 h0;have h1:1≤c.size:=h0;have hnl:=qf c (· != bt c 0);have h1i:(1:Int)≤(c.size:Int):=by omega
 have XU:(aI c (· != bt c 0):Int)≤(c.size:Int):=by omega
 have HRn:=aen fun W=>BV c (bt c 0) (aK c 0) W hs;have HR:Hid (kG c ind=if bt c 0=96∨bt c 0=126 then (if xY c (aI c (· != bt c 0))=true then some {kind:=7,n:=aI c (· != bt c 0),ch:=c.extract 0 1,info:=mk (trimS (sfx c (aI c (· != bt c 0)))),off:=ind} else none) else none):=aen rfl;have jM:Hid (xY c (aI c (· != bt c 0))=(decide (3≤aI c (· != bt c 0))&&!(decide (bt c 0=96)&&(sfx c (aI c (· != bt c 0))).contains 96))):=aen rfl;generalize aI c (· != bt c 0)=n at *;have HX:=aen (extract_drop c n);have hxs:(c.extract n c.size).size≤1000000:=by rw[aex];omega
 have dZ:Hid (∀W,Calls prog 105 #[.string (c.extract n c.size)] W fun e w'=>e=.returned (.string (mk (trimS (sfx c n))))∧w'=W):=aen fun W=>by
  have h:=(uT (c.extract n c.size) W hxs).mono fun e w' h=>(⟨h.1,h.2.symm⟩:_∧w'=W);rw[HX.out,bytesL_mk'] at h;rw[HX.out];exact h
 have HI:Hid (∀W,Calls prog 91 #[.string (c.extract n c.size),.int .u8 96] W fun e w'=>e=.returned (.int .i64 (Lib.indexByte (sfx c n) 96))∧W=w'):=aen fun W=>by
  have h:=(Tryz.strings_IndexByte (c.extract n c.size) 96 W).mono fun e w' ⟨h,h'⟩=>(⟨h,h'.symm⟩:_∧W=w');have e1:(c.extract n c.size).data.toList=sfx c n:=by
   have:=bytesL_mk' (sfx c n);rw[←HX.out] at this;exact this
  rw[e1] at h;exact h
 obtain⟨hd1,hd2⟩:=OZ (sfx c n) 96;have tK:Hid (decide (0≤Lib.indexByte (sfx c n) 96)=(sfx c n).contains 96):=aen (Lib.contains_iff_indexByte _ _).symm;clear hd2;generalize Lib.indexByte (sfx c n) 96=x at *;generalize (sfx c n).contains 96=q at *;generalize mk (trimS (sfx c n))=T at *;clear HX;generalize kG c ind=R at *;by_cases hq:bt c 0=96∨bt c 0=126
 ·rw[if_pos hq] at HR;generalize bt c 0=a at *;have hcase:(((a:Int) != 96)=false∧((a:Int)==96)=true∧Hid (decide (a=96)=true))∨(((a:Int) != 96)=true∧((a:Int) != 126)=false∧((a:Int)==96)=false∧Hid (decide (a=96)=false)):=by
   rcases hq with rfl|rfl
   ·left;exact⟨rfl,rfl,aen rfl⟩
   ·right;exact⟨rfl,rfl,rfl,aen rfl⟩
  clear hq;by_cases h3:n<3
  ·have HF:Hid (R=none):=aen (by rw[HR.out,jM.out,aep (show ¬3≤n by omega)];rfl);have d1:decide ((n:Int)<3)=true:=aeq (by omega);have d2:decide (n<3)=true:=aeq h3;clear HR jM;rcases hcase with ⟨z1,z2,-⟩|⟨z1,z2,z3,-⟩;all_goals
    go_enter Tryz.func64,Tryz.ntmps64;go_wp2_with fail;with_reducible refine(HRn.out _).mono ?_
    rintro e w' ⟨rfl,b1⟩;obtain⟨HZ,HB⟩:=dI b1;obtain⟨k0,k1,k2,k3,k4,k5,k6,k7,k8,k9,k10,y0,y1,y2,y3,y4,y5,y6,y7,y8,y9,aj⟩:=ZM.facts HZ;go_wp2_with fail;exact Ce (ax HZ _ _ _ _ _ _ _ _ _ _ _) rfl rfl rfl (eG HF.out ⟨_,_,_,_,_,_,_,_,_,_,_,_,_,_,_,rfl⟩ (au HB (aeo _) _ _ _ _ _ _ _ _ _ _ _))
  ·have d1:decide ((n:Int)<3)=false:=aep (by omega);have d2:decide (n<3)=false:=aep h3;have h3':decide (3≤n)=true:=aeq (by omega);rw[h3'] at jM;rcases hcase with ⟨z1,z2,z4⟩|⟨z1,z2,z3,z4⟩
   ·rw[z4.out] at jM;cases q
    ·have HF:Hid (R=some {kind:=7,n:=n,ch:=c.extract 0 1,info:=T,off:=ind}):=aen (by rw[HR.out,jM.out];rfl);have dx:=tK.out;clear HR jM tK h3 h3';go_enter Tryz.func64,Tryz.ntmps64;go_wp2_with fail;with_reducible refine(HRn.out _).mono ?_
     rintro e w' ⟨rfl,b1⟩;obtain⟨HZ,HB⟩:=dI b1;obtain⟨k0,k1,k2,k3,k4,k5,k6,k7,k8,k9,k10,y0,y1,y2,y3,y4,y5,y6,y7,y8,y9,aj⟩:=ZM.facts HZ;go_wp2_with fail;with_reducible refine(HI.out _).mono ?_
     rintro e w2 ⟨rfl,rfl⟩;go_wp2_with fail;refine wp_region_still_tail 9 (by kernel_rfl) (by kernel_rfl) ?_;simp only[List.take_succ_cons,List.take_zero,List.drop_succ_cons,List.drop_zero];repeat still_step
     still_call (dZ.out _);repeat still_step
     refine wpStill_nil ?_;go_wp2_with fail;exact Ce (ae.drewN (ax HZ _ _ _ _ _ _ _ _ _ _ _) 1) rfl rfl rfl (rd_some HF.out (fE (m:={kind:=7,n:=n,ch:=c.extract 0 1,info:=T,off:=ind}) rfl (below_drewN (au HB (aeo _) _ _ _ _ _ _ _ _ _ _ _) 1).size) (below_drewN (au HB (aeo _) _ _ _ _ _ _ _ _ _ _ _) 1))
    ·have HF:Hid (R=none):=aen (by rw[HR.out,jM.out];rfl);have dx:=tK.out;clear HR jM tK h3 h3';go_enter Tryz.func64,Tryz.ntmps64;go_wp2_with fail;with_reducible refine(HRn.out _).mono ?_
     rintro e w' ⟨rfl,b1⟩;obtain⟨HZ,HB⟩:=dI b1;obtain⟨k0,k1,k2,k3,k4,k5,k6,k7,k8,k9,k10,y0,y1,y2,y3,y4,y5,y6,y7,y8,y9,aj⟩:=ZM.facts HZ;go_wp2_with fail;with_reducible refine(HI.out _).mono ?_
     rintro e w2 ⟨rfl,rfl⟩;go_wp2_with fail;exact Ce (ax HZ _ _ _ _ _ _ _ _ _ _ _) rfl rfl rfl (eG HF.out ⟨_,_,_,_,_,_,_,_,_,_,_,_,_,_,_,rfl⟩ (au HB (aeo _) _ _ _ _ _ _ _ _ _ _ _))
   ·rw[z4.out] at jM;have HF:Hid (R=some {kind:=7,n:=n,ch:=c.extract 0 1,info:=T,off:=ind}):=aen (by rw[HR.out,jM.out];rfl);clear HR jM tK h3 h3';go_enter Tryz.func64,Tryz.ntmps64;go_wp2_with fail;with_reducible refine(HRn.out _).mono ?_
    rintro e w' ⟨rfl,b1⟩;obtain⟨HZ,HB⟩:=dI b1;obtain⟨k0,k1,k2,k3,k4,k5,k6,k7,k8,k9,k10,y0,y1,y2,y3,y4,y5,y6,y7,y8,y9,aj⟩:=ZM.facts HZ;go_wp2_with fail;refine wp_region_still_tail 9 (by kernel_rfl) (by kernel_rfl) ?_;simp only[List.take_succ_cons,List.take_zero,List.drop_succ_cons,List.drop_zero];repeat still_step
    still_call (dZ.out _);repeat still_step
    refine wpStill_nil ?_;go_wp2_with fail;exact Ce (ae.drewN (ax HZ _ _ _ _ _ _ _ _ _ _ _) 1) rfl rfl rfl (rd_some HF.out (fE (m:={kind:=7,n:=n,ch:=c.extract 0 1,info:=T,off:=ind}) rfl (below_drewN (au HB (aeo _) _ _ _ _ _ _ _ _ _ _ _) 1).size) (below_drewN (au HB (aeo _) _ _ _ _ _ _ _ _ _ _ _) 1))
 ·have z1:(((bt c 0:Nat):Int) != 96)=true:=by rw[aeB];omega
  have z2:(((bt c 0:Nat):Int) != 126)=true:=by rw[aeB];omega
  have HF:Hid (R=none):=aen (by rw[HR.out,if_neg hq]);clear HR hq;go_enter Tryz.func64,Tryz.ntmps64;go_wp2_with fail;exact Ce (ae.new w _ _) rfl rfl rfl (eG HF.out ⟨_,_,_,_,_,_,_,_,_,_,_,_,_,_,_,rfl⟩ ((aer _ w).alloc (aeo _) _))
section
variable {P:Program} {ops:Array Oper} {Q:Exit→Act→World→Prop} {S:World→Prop} {fuel:Nat} {listed:Array Bool} {a:Act} {w:World}
theorem tk(i:Nat)(v:Value){oi:Oper}(hi:ops[i]?=some oi)(hS:S w)(hy:∀w,S w→(execOp a.eval oi).run P w=.ok (.value v) w)
 (h:wpAnyH P .any ops Q S fuel (listed.setIfInBounds i true) (a.put oi.dst v) w)
 (hs:Region.noSelect ops=true:=by kernel_rfl) (hf:Region.free .any ops listed i=true:=by kernel_rfl) (hr:(Region.ready .any ops listed).contains i=true:=by kernel_rfl)
 (hw:Region.wanted oi (yielded ops a.tmps)=true:=by kernel_rfl) (hQ:∀c a w,Q (.panic c) (a.put oi.dst v) w→Q (.panic c) a w:=by exact fun _ _ _ h=>h):wpAnyH P .any ops Q S (fuel+1) listed a w:=
 wpAnyH_take hi hs hf hr hQ (Or.inl ⟨hw,hy⟩) hS h
theorem aC(i:Nat){o:Oper}(ho:ops[i]?=some o)(h:∀K':Act→World→Prop,Shut (∀a w,S w→(S w→wpAnyH P .any ops Q S fuel (listed.setIfInBounds i true) a w)→K' a w)→if Region.wanted o (yielded ops a.tmps)=true then Oper.wp P o a w K' Q else K' (a.put o.dst undef) w)
 (hr:Region.ready .any ops listed=[i]:=by kernel_rfl):wpAnyH P .any ops Q S (fuel+1) listed a w:=
 wpAnyH_ready hr (by simp) (AllReadyH.cons ho h AllReadyH.nil)
end
theorem kT{a:Nat}{k:Int}(h:(a:Int)=k):((a:Int)==k)=true:=beq_iff_eq.2 h
theorem kF{a:Nat}{k:Int}(h:(a:Int)≠k):((a:Int)==k)=false:=beq_eq_false_iff_ne.2 h
end Go.Proofs.YtpoafhgbhnblmaaGreatDoor
