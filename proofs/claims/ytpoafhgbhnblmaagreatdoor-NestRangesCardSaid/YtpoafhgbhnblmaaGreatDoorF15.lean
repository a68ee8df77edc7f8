import Derived.Test.YtpoafhgbhnblmaaGreatDoorF14
set_option linter.unusedVariables false
set_option linter.unusedSimpArgs false
set_option maxRecDepth 100000
set_option maxHeartbeats 20000000
namespace Go.Proofs.YtpoafhgbhnblmaaGreatDoor
open Go.Proofs.Tryz (prog)
open Go.RowKit Go.ChangeMaps Go.MapKept
open Go.Maps (Keyed)
def wZ(w:World)(b:Nat)(keys:List ByteArray):Prop:=
 ∃es clock,w.heap[b]?=some (.map es clock)∧es.toList.map (fun e=>(e.key,e.val))=keys.map (fun k=>(Value.string k,Value.bool true))∧∀k∈keys,k.size≤maxLen
section
variable {P:Program} {w w':World} {b:Nat} {keys:List ByteArray}
theorem wZ.lt(h:wZ w b keys):b<w.heap.size:=by
 obtain⟨es,clock,hb,_⟩:=h;exact(Array.getElem?_eq_some_iff.1 hb).1
theorem wZ.kept(h:wZ w b keys)(hb:w'.heap[b]?=w.heap[b]?):wZ w' b keys:=by
 obtain⟨es,clock,h1,h2⟩:=h;exact⟨es,clock,hb.trans h1,h2⟩
theorem wZ.alloc(h:wZ w b keys)(o:Obj):wZ (w.alloc o) b keys:=h.kept (Below.heap_alloc _ _ _ h.lt)
end
theorem yw{P:Program}{f:FuncId}{args:Array Value}{w:World}{n:Nat}{v:Value}
 (h:Calls P f args (w.drewN n) fun e w'=>e=.returned v∧w.drewN n=w'):Calls P f args (w.drewN n) fun e w''=>e=.returned v∧∃m,w''=w.drewN m:=
 h.mono fun _ _ ⟨he,hm⟩=>⟨he,n,hm.symm⟩
theorem Reads.take{w:World}{B size n k:Nat}{A:Option Addr}{xs:List Value}(h:Reads w B size A n xs)(hk:k≤n):Reads w B size A k (xs.take (k * size)):=by
 refine⟨by rw[List.length_take,h.1];exact Nat.min_eq_left (Nat.mul_le_mul_right _ hk),fun h0=>?_⟩;obtain⟨ad,e,hb,hc⟩:=h.2 (by omega);refine⟨ad,e,hb,fun j u hu=>hc j u ?_⟩;rw[List.getElem?_take] at hu;split at hu
 ·exact hu
 ·cases hu
def FP(r:Nat × Nat × AttrL)(base:Nat)(w:World)(e:Ending)(w':World):Prop:=
 ∃(v:Value) (t:Nat),e=.returned (.tuple #[v,.int .i64 t,.int .i64 r.2.1])∧(r.2.1=0→t=r.1)∧tC w' base v r.2.2∧Below base w w'
theorem qx{W:World}{g:Nat}{x y z a5 a6:Value}{P:Ending→World→Prop}{act:Act}(hr:ae W g 43 #[x,y,z])(h4:act.tmps.getD 6 undef=.pointer (some ⟨g,0,none⟩))
 (h5:act.tmps.getD 7 undef=a5) (h6:act.tmps.getD 8 undef=a6) (hd:act.defers=[]) (hP:P (.returned (.tuple #[.agg #[x,y,z],a5,a6])) W):bodyPost prog Tryz.f246 P Exit.ret act W:=by
 have c0:W.cell? ⟨g,0,none⟩=some x:=hr.cell 0;have c1:W.cell? ⟨g,1,none⟩=some y:=hr.cell 1;have c2:W.cell? ⟨g,2,none⟩=some z:=hr.cell 2;refine bodyPost_ret (v:=.tuple #[.agg #[x,y,z],a5,a6]) ?_ hd hP;rw[aew] at h4 h5 h6;simp[results,Tryz.results246,go_sem,h4,h5,h6,c0,c1,c2]
theorem aZ.Jm{w:World}{base:Nat}{a:AttrL}{vC vP:Value}(h:aZ w base a vC vP)(x:ByteArray):aZ w base {a with id:=x} vC vP:=⟨h.cls,h.aH,h.le,h.c32,h.p32⟩
theorem CU{W:World}{base g2:Nat}{a:AttrL}{vC vP x y z:Value}(h:aZ W base a vC vP)(hb2:ae W g2 43 #[x,y,z])(hg:base≤g2) :
 ae (((W.setCell ⟨g2,0,none⟩ (.string a.id)).setCell ⟨g2,1,none⟩ vC).setCell ⟨g2,2,none⟩ vP) g2 43 #[.string a.id,vC,vP]∧
 aZ (((W.setCell ⟨g2,0,none⟩ (.string a.id)).setCell ⟨g2,1,none⟩ vC).setCell ⟨g2,2,none⟩ vP) base a vC vP∧
 Below base W (((W.setCell ⟨g2,0,none⟩ (.string a.id)).setCell ⟨g2,1,none⟩ vC).setCell ⟨g2,2,none⟩ vP):=by
 have o2:∀k,vC.ownBlock=some k→g2≠k:=oP h.cls hb2 (by decide);have o4:∀k,vP.ownBlock=some k→g2≠k:=oP h.aH hb2 (by decide);refine⟨?_,((h.setCell o2 o4 _).setCell o2 o4 _).setCell o2 o4 _,(((aer _ _).setCell (by simpa using hg) _).setCell (by simpa using hg) _).setCell (by simpa using hg) _⟩;have:=((hb2.bJ 0 (.string a.id)).bJ 1 vC).bJ 2 vP;simpa using this
theorem YJ{w1 w2:World}{g g2 base:Nat}{a:AttrL}{vC vP v' x y z:Value}{key val:ByteArray}(h:aZ w1 base a vC vP)(hb:ae w1 g 43 #[.string a.id,vC,vP])(hb2:ae w1 g2 43 #[x,y,z])(hg2:g<g2)(hgb:base≤g)
 (hown:w2.ownsRow base 81 2 v' (a.pr.length+1) (aH a.pr++[.string key,.string val])) (hg:(w1.alloc (.cells #[.string key,.string val] 81)).grownBy w2 vP.ownBlock) (hl:a.pr.length<32) :
 (ae w2 g 43 #[.string a.id,vC,vP]∧ae w2 g2 43 #[x,y,z])∧
 ae ((((w2.setCell ⟨g,2,none⟩ v').setCell ⟨g2,0,none⟩ (.string a.id)).setCell ⟨g2,1,none⟩ vC).setCell ⟨g2,2,none⟩ v') g2 43 #[.string a.id,vC,v']∧
 aZ ((((w2.setCell ⟨g,2,none⟩ v').setCell ⟨g2,0,none⟩ (.string a.id)).setCell ⟨g2,1,none⟩ vC).setCell ⟨g2,2,none⟩ v') base {a with pr:=a.pr++[(key,val)]} vC v'∧
 Below base w1 ((((w2.setCell ⟨g,2,none⟩ v').setCell ⟨g2,0,none⟩ (.string a.id)).setCell ⟨g2,1,none⟩ vC).setCell ⟨g2,2,none⟩ v'):=by
 have e1:some g≠vP.ownBlock:=fun e=>oP h.aH hb (by decide) g e.symm rfl;have e2:some g2≠vP.ownBlock:=fun e=>oP h.aH hb2 (by decide) g2 e.symm rfl;have B1:=(hb.alloc (.cells #[.string key,.string val] 81)).grown hg e1;have B2:=(hb2.alloc (.cells #[.string key,.string val] 81)).grown hg e2;have B4:=B2.far (p:=⟨g,2,none⟩) (by simp;omega) v';have hO:aZ w2 base {a with pr:=a.pr++[(key,val)]} vC v':=by
  refine⟨(h.cls.alloc _).kept hg (own_ne h.cls h.aH (by decide)),?_,by have:=hg.size;have:=h.le;simp at *;omega,h.c32,by simp;omega⟩;show w2.ownsRow base 81 2 v' (a.pr++[(key,val)]).length (aH (a.pr++[(key,val)]));unfold aH at hown ⊢;rw[aey,List.flatMap_append];exact hown
 have o1:∀k,v'.ownBlock=some k→g≠k:=oP hown B1 (by decide);have o3:∀k,vC.ownBlock=some k→g≠k:=oP h.cls hb (by decide);have xW:=hO.setCell (p:=⟨g,2,none⟩) o3 o1 v';obtain⟨f1,f2,f3⟩:=CU xW B4 (by omega);exact⟨⟨B1,B2⟩,f1,f2,((((aer _ _).alloc h.le _).grown hg (by have:=h.le;simp;omega) (fun k hk=>(h.aH.lt k hk).1)).setCell (by simpa using hgb) _).trans f3⟩
theorem YK(w:World)(base:Nat)(a:AttrL)(vC vP:Value)(s:ByteArray)(i:Nat)(h:aZ w base a vC vP)(hs:s.size≤1000000)(hi:i<s.size)(hb:bt s i=35) :
 Calls prog 246 #[.agg #[.string a.id,vC,vP],.string s,.int .i64 i] w (FP (bG a s i) base w):=by
 have HI:Hid (bG a s i=(if nameB (nameAt s (i+1))=true then (if a.id=⟨#[]⟩ then (wordAt s (i+1),0,{a with id:=nameAt s (i+1)}) else (0,7,a)) else (0,5,a))):=aen (by unfold bG;rw[if_pos hb]);have hlt:((s[i].toNat:Nat):Int)<256:=by rw[get_bt s i hi];omega
 have z1:(((s[i].toNat:Nat):Int)==35)=true:=by rw[get_bt s i hi,hb];rfl
 clear hb;have hwb:=pZ s (s.size - (i+1)) (i+1);have hw1:i+1≤wordAt s (i+1):=hwb.1;have hw2:wordAt s (i+1)≤s.size:=hwb.2 hi;clear hwb;have HW:Hid (∀W,Calls prog 222 #[.string s,.int .i64 ((i:Int)+1)] W fun e w'=>e=.returned (.int .i64 (wordAt s (i+1)))∧W=w'):=aen fun W=>by rw[←wL];exact BO s (i+1) W (by omega)
 have HN:Hid (∀W,Calls prog 182 #[.string (s.extract (i+1) (wordAt s (i+1)))] W fun e w'=>e=.returned (.bool (nameB (nameAt s (i+1))))∧W=w'):=aen fun W=>zV _ W (by rw[extract_size s _ _ hw1 hw2];omega);have BX:Hid (nameAt s (i+1)=s.extract (i+1) (wordAt s (i+1))):=aen rfl;obtain⟨AC,cC,rfl⟩:=ay h.cls;obtain⟨AP,cP,rfl⟩:=ay h.aH;have hle:=h.le;have HT:=aen (Cc a _ _ base h (.cells #[.string a.id,.slice AC a.cl.length cC,.slice AP a.pr.length cP] 43));have HT2:=aen (Cc {a with id:=s.extract (i+1) (wordAt s (i+1))} _ _ base (h.Jm _) (.cells #[.string (s.extract (i+1) (wordAt s (i+1))),.slice AC a.cl.length cC,.slice AP a.pr.length cP] 43));clear h;generalize bG a s i=T at *;generalize nameB (nameAt s (i+1))=nb at *;generalize nameAt s (i+1)=na at *;generalize wordAt s (i+1)=t at *;cases nb
 ·go_enter Tryz.func246,Tryz.ntmps246;go_wp2_with fail;with_reducible refine(HW.out _).mono ?_
  rintro e w1 ⟨rfl,rfl⟩;go_wp2_with fail;with_reducible refine(HN.out _).mono ?_
  rintro e w1 ⟨rfl,rfl⟩;go_wp2_with fail;refine qx HT.out.1 rfl rfl rfl rfl ?_;rw[HI.out];exact⟨_,0,rfl,fun _=>rfl,HT.out.2.1.val,HT.out.2.2.mono hle⟩
 ·by_cases hid:a.id=⟨#[]⟩
  ·have hT:Hid (T=(t,0,{a with id:=na})):=aen (by rw[HI.out,if_pos rfl,if_pos hid]);have y1:a.id.toList=[]:=(E6 _).2 hid;have y2:a.id.toList.isEmpty=true:=by rw[y1];rfl
   clear hid;go_enter Tryz.func246,Tryz.ntmps246;go_wp2_with fail;with_reducible refine(HW.out _).mono ?_
   rintro e w1 ⟨rfl,rfl⟩;go_wp2_with fail;with_reducible refine(HN.out _).mono ?_
   rintro e w1 ⟨rfl,rfl⟩;go_wp2_with fail;refine qx HT2.out.1 rfl rfl rfl rfl ?_;rw[hT.out,BX.out];exact⟨_,t,rfl,fun _=>rfl,HT2.out.2.1.val,HT2.out.2.2.mono hle⟩
  ·have hT:Hid (T=(0,7,a)):=aen (by rw[HI.out,if_pos rfl,if_neg hid]);have y1:¬a.id.toList=[]:=fun e=>hid ((E6 _).1 e);have y2:a.id.toList.isEmpty=false:=by rw[List.isEmpty_eq_false_iff];exact y1
   clear hid;go_enter Tryz.func246,Tryz.ntmps246;go_wp2_with fail;with_reducible refine(HW.out _).mono ?_
   rintro e w1 ⟨rfl,rfl⟩;go_wp2_with fail;with_reducible refine(HN.out _).mono ?_
   rintro e w1 ⟨rfl,rfl⟩;go_wp2_with fail;refine qx HT.out.1 rfl rfl rfl rfl ?_;rw[hT.out];exact⟨_,0,rfl,fun _=>rfl,HT.out.2.1.val,HT.out.2.2.mono hle⟩
theorem YL(w:World)(base:Nat)(a:AttrL)(vC vP:Value)(s:ByteArray)(i:Nat)(h:aZ w base a vC vP)(hs:s.size≤1000000)(hi:i<s.size)(hb:bt s i=46) :
 Calls prog 246 #[.agg #[.string a.id,vC,vP],.string s,.int .i64 i] w (FP (bG a s i) base w):=by
 have HI:Hid (bG a s i=(if nameB (nameAt s (i+1))=true then (wordAt s (i+1),lN a (nameAt s (i+1)),mO a (nameAt s (i+1))) else (0,5,a))):=aen (by unfold bG;rw[if_neg (by omega),if_pos hb]);have hlt:((s[i].toNat:Nat):Int)<256:=by rw[get_bt s i hi];omega
 have z1:(((s[i].toNat:Nat):Int)==35)=false:=by rw[get_bt s i hi,hb];rfl
 have z2:(((s[i].toNat:Nat):Int)==46)=true:=by rw[get_bt s i hi,hb];rfl
 clear hb;have hwb:=pZ s (s.size - (i+1)) (i+1);have hw1:i+1≤wordAt s (i+1):=hwb.1;have hw2:wordAt s (i+1)≤s.size:=hwb.2 hi;clear hwb;have HW:Hid (∀W,Calls prog 222 #[.string s,.int .i64 ((i:Int)+1)] W fun e w'=>e=.returned (.int .i64 (wordAt s (i+1)))∧W=w'):=aen fun W=>by rw[←wL];exact BO s (i+1) W (by omega)
 have HN:Hid (∀W,Calls prog 182 #[.string (s.extract (i+1) (wordAt s (i+1)))] W fun e w'=>e=.returned (.bool (nameB (nameAt s (i+1))))∧W=w'):=aen fun W=>zV _ W (by rw[extract_size s _ _ hw1 hw2];omega);obtain⟨AC,cC,rfl⟩:=ay h.cls;obtain⟨AP,cP,rfl⟩:=ay h.aH;have hle:=h.le;have HT:=aen (Cc a _ _ base h (.cells #[.string a.id,.slice AC a.cl.length cC,.slice AP a.pr.length cP] 43));have KB:=aen (((aer _ w).alloc (aeo _) (.cells #[.string a.id,.slice AC a.cl.length cC,.slice AP a.pr.length cP] 43)).alloc (by simp) (.cells #[.string ⟨#[]⟩,.slice none 0 0,.slice none 0 0] 43));have KO:=aen (h.below KB.out);have K2:Hid (ae ((w.alloc (.cells #[.string a.id,.slice AC a.cl.length cC,.slice AP a.pr.length cP] 43)).alloc (.cells #[.string ⟨#[]⟩,.slice none 0 0,.slice none 0 0] 43)) (w.heap.size+1) 43 #[.string ⟨#[]⟩,.slice none 0 0,.slice none 0 0]):=aen (by
  have:=ae.new (w.alloc (.cells #[.string a.id,.slice AC a.cl.length cC,.slice AP a.pr.length cP] 43)) 43 #[.string ⟨#[]⟩,.slice none 0 0,.slice none 0 0];simpa using this)
 have HC:Hid (Calls prog 260 #[.agg #[.string a.id,.slice AC a.cl.length cC,.slice AP a.pr.length cP],.string (s.extract (i+1) (wordAt s (i+1)))] ((w.alloc (.cells #[.string a.id,.slice AC a.cl.length cC,.slice AP a.pr.length cP] 43)).alloc (.cells #[.string ⟨#[]⟩,.slice none 0 0,.slice none 0 0] 43)) (PN (lN a (nameAt s (i+1))) (mO a (nameAt s (i+1))) base (Value.slice AC a.cl.length cC).ownBlock ((w.alloc (.cells #[.string a.id,.slice AC a.cl.length cC,.slice AP a.pr.length cP] 43)).alloc (.cells #[.string ⟨#[]⟩,.slice none 0 0,.slice none 0 0] 43)))):=aen (XE _ base a _ _ (nameAt s (i+1)) KO.out);clear h;generalize bG a s i=T at *;generalize nameB (nameAt s (i+1))=nb at *;generalize lN a (nameAt s (i+1))=E1 at *;generalize mO a (nameAt s (i+1))=A1 at *;generalize wordAt s (i+1)=t at *;cases nb
 ·go_enter Tryz.func246,Tryz.ntmps246;go_wp2_with fail;with_reducible refine(HW.out _).mono ?_
  rintro e w1 ⟨rfl,rfl⟩;go_wp2_with fail;with_reducible refine(HN.out _).mono ?_
  rintro e w1 ⟨rfl,rfl⟩;go_wp2_with fail;refine qx HT.out.1 rfl rfl rfl rfl ?_;rw[HI.out];exact⟨_,0,rfl,fun _=>rfl,HT.out.2.1.val,HT.out.2.2.mono hle⟩
 ·go_enter Tryz.func246,Tryz.ntmps246;go_wp2_with fail;with_reducible refine(HW.out _).mono ?_
  rintro e w1 ⟨rfl,rfl⟩;go_wp2_with fail;with_reducible refine(HN.out _).mono ?_
  rintro e w1 ⟨rfl,rfl⟩;go_wp2_with fail;with_reducible refine HC.out.mono ?_
  rintro e w1 ⟨v,rfl,hv,hg⟩;obtain⟨⟨FQ,FT,rfl,hc1,hp1⟩,h32,p32⟩:=hv;obtain⟨A2,c2,rfl⟩:=ay hc1;obtain⟨A3,c3,rfl⟩:=ay hp1;have B2:=K2.out.grown hg (fun e=>oP KO.out.cls K2.out (by decide) _ e.symm rfl);have hz1:=hg.size;simp only[sZ] at hz1;have xW:aZ w1 base A1 (.slice A2 A1.cl.length c2) (.slice A3 A1.pr.length c3):=⟨hc1,hp1,by omega,h32,p32⟩;have HF:=aen (CU xW B2 (by omega));have jb:=aen ((KB.out.mono hle).grown hg (by simp;omega) (fun k hk=>(KO.out.cls.lt k hk).1));have k0:=B2.cell 0;have k1:=B2.cell 1;have k2:=B2.cell 2;simp at k0 k1 k2;have m0:=B2.frozen 0;have m1:=B2.frozen 1;have m2:=B2.frozen 2;have hlt1:w.heap.size+1<w1.heap.size:=by omega
  clear B2 xW hg hc1 hp1;go_wp2_with fail;refine qx (HF.out.1.alloc _) rfl rfl rfl rfl ?_;rw[HI.out];exact⟨_,t,rfl,fun _=>rfl,(HF.out.2.1.below ((aer _ _).alloc (aeo _) _)).val,(jb.out.trans HF.out.2.2).alloc HF.out.2.1.le _⟩
theorem YM(w:World)(base:Nat)(a:AttrL)(vC vP:Value)(s:ByteArray)(i:Nat)(h:aZ w base a vC vP)(hs:s.size≤1000000)(hi:i<s.size)(hb1:bt s i≠35)(hb2:bt s i≠46) :
 Calls prog 246 #[.agg #[.string a.id,vC,vP],.string s,.int .i64 i] w (FP (bG a s i) base w):=by
 have HI:Hid (bG a s i=if nameB (nameAt s i)=true then qV a s (nameAt s i) (wordAt s i) else (0,5,a)):=aen (by unfold bG;rw[if_neg hb1,if_neg hb2]);have hlt:((s[i].toNat:Nat):Int)<256:=by rw[get_bt s i hi];have:=aK s i;omega
 have z1:(((s[i].toNat:Nat):Int)==35)=false:=by rw[get_bt s i hi,aes];omega
 have z2:(((s[i].toNat:Nat):Int)==46)=false:=by rw[get_bt s i hi,aes];omega
 clear hb1 hb2;have hwb:=pZ s (s.size - i) i;have hw1:i≤wordAt s i:=hwb.1;have hw2:wordAt s i≤s.size:=hwb.2 (by omega);clear hwb;have HW:=aen (fun W=>BO s i W (by omega));have HN:Hid (∀W,Calls prog 182 #[.string (s.extract i (wordAt s i))] W fun e w'=>e=.returned (.bool (nameB (nameAt s i)))∧W=w'):=aen fun W=>zV _ W (by rw[extract_size s _ _ hw1 hw2];omega);have BX:Hid (nameAt s i=s.extract i (wordAt s i)):=aen rfl;obtain⟨AC,cC,rfl⟩:=ay h.cls;obtain⟨AP,cP,rfl⟩:=ay h.aH;obtain⟨i0,hi0,hz0,hz1,hz2⟩:=info_parts O8;have hle:=h.le;have HT:=aen (Cc a _ _ base h (.cells #[.string a.id,.slice AC a.cl.length cC,.slice AP a.pr.length cP] 43));have KB:=aen (((aer _ w).alloc (aeo _) (.cells #[.string a.id,.slice AC a.cl.length cC,.slice AP a.pr.length cP] 43)).alloc (by simp) (.cells #[.string ⟨#[]⟩,.slice none 0 0,.slice none 0 0] 43));have KO:=aen (h.below KB.out);have K1:=aen ((ae.new w 43 #[.string a.id,.slice AC a.cl.length cC,.slice AP a.pr.length cP]).alloc (.cells #[.string ⟨#[]⟩,.slice none 0 0,.slice none 0 0] 43));have K2:Hid (ae ((w.alloc (.cells #[.string a.id,.slice AC a.cl.length cC,.slice AP a.pr.length cP] 43)).alloc (.cells #[.string ⟨#[]⟩,.slice none 0 0,.slice none 0 0] 43)) (w.heap.size+1) 43 #[.string ⟨#[]⟩,.slice none 0 0,.slice none 0 0]):=aen (by
  have:=ae.new (w.alloc (.cells #[.string a.id,.slice AC a.cl.length cC,.slice AP a.pr.length cP] 43)) 43 #[.string ⟨#[]⟩,.slice none 0 0,.slice none 0 0];simpa using this)
 have xO:Hid (qV a s (nameAt s i) (wordAt s i)=if wordAt s i<s.size∧bt s (wordAt s i)=61 then (if (dM s (wordAt s i+1)).2.2=true then ((dM s (wordAt s i+1)).2.1,oO a (nameAt s i),qh a (nameAt s i) (dM s (wordAt s i+1)).1) else (0,5,a)) else (0,5,a)):=aen rfl;have JZ:Hid (oO a (nameAt s i)=if oN a.pr (nameAt s i)=true then 7 else if 32≤a.pr.length then 3 else 0):=aen rfl;have J3:Hid (∀v,qh a (nameAt s i) v=if oO a (nameAt s i)=0 then {a with pr:=a.pr++[(nameAt s i,v)]} else a):=aen fun _=>rfl;have HK:Hid (∀W,Reads W W.heap.size 2 AP a.pr.length (aH a.pr)→Calls prog 262 #[.slice AP a.pr.length cP,.string (s.extract i (wordAt s i))] W fun e w'=>e=.returned (.bool (oN a.pr (nameAt s i)))∧W=w'):=aen fun W hr=>Xa AP cP _ a.pr (nameAt s i) W hr (by have:=h.p32;omega);clear h;generalize qV a s (nameAt s i) (wordAt s i)=PI at *;generalize bG a s i=T at *;generalize nameB (nameAt s i)=nb at *;generalize qh a (nameAt s i)=A1 at *;generalize oO a (nameAt s i)=E1 at *;generalize oN a.pr (nameAt s i)=hk at *;generalize nameAt s i=na at *;generalize wordAt s i=t at *;cases nb
 ·go_enter Tryz.func246,Tryz.ntmps246;go_wp2_with fail;with_reducible refine(HW.out _).mono ?_
  rintro e w1 ⟨rfl,rfl⟩;go_wp2_with fail;with_reducible refine(HN.out _).mono ?_
  rintro e w1 ⟨rfl,rfl⟩;go_wp2_with fail;refine qx HT.out.1 rfl rfl rfl rfl ?_;rw[HI.out];exact⟨_,0,rfl,fun _=>rfl,HT.out.2.1.val,HT.out.2.2.mono hle⟩
 ·by_cases ht:t<s.size
  ·have htl:((s[t].toNat:Nat):Int)<256:=by rw[get_bt s t ht];have:=aK s t;omega
   by_cases qW:bt s t=61
   ·have z3:(((s[t].toNat:Nat):Int) != 61)=false:=by rw[get_bt s t ht,qW];rfl
    have hT:Hid (T=if (dM s (t+1)).2.2=true then ((dM s (t+1)).2.1,E1,A1 (dM s (t+1)).1) else (0,5,a)):=aen (by rw[HI.out,if_pos rfl,xO.out,if_pos ⟨ht,qW⟩]);have d1:decide (s.size≤t)=false:=aep (by omega);clear qW;have HV:Hid (∀W,Calls prog 261 #[.string s,.int .i64 ((t:Int)+1)] W (uX (qU (dM s (t+1))) W)):=aen fun W=>by rw[←wL];exact Xh s (t+1) W hs (by omega)
    generalize dM s (t+1)=V at *;obtain⟨v,t2,ok⟩:=V;cases ok
    ·go_enter Tryz.func246,Tryz.ntmps246;go_wp2_with fail;with_reducible refine(HW.out _).mono ?_
     rintro e w1 ⟨rfl,rfl⟩;go_wp2_with fail;with_reducible refine(HN.out _).mono ?_
     rintro e w1 ⟨rfl,rfl⟩;go_wp2_with fail;with_reducible refine(HV.out _).mono ?_
     rintro e w1 ⟨rfl,b1⟩;have hz1:=b1.size;simp only[sZ] at hz1;have B1:=K1.out.below b1 (by simp;omega);have B2:=K2.out.below b1 (by simp);have KF:=aen (CU (KO.out.below b1) B2 (by omega));have j0:=B1.cell 0;have j1:=B1.cell 1;have j2:=B1.cell 2;have k0:=B2.cell 0;have k1:=B2.cell 1;have k2:=B2.cell 2;simp at j0 j1 j2 k0 k1 k2;have m0:=B2.frozen 0;have m1:=B2.frozen 1;have m2:=B2.frozen 2;have J4:=aen b1;clear B1 B2 b1;go_wp2_with fail;refine qx KF.out.1 rfl rfl rfl rfl ?_;rw[hT.out];exact⟨_,0,rfl,fun _=>rfl,KF.out.2.1.val,((KB.out.mono hle).trans (J4.out.mono (by simp;omega))).trans KF.out.2.2⟩
    ·have hT2:Hid (T=(t2,E1,A1 v)):=hT;clear hT;have QD:Hid (∀W,Calls prog 261 #[.string s,.int .i64 ((t:Int)+1)] W (uX (v,t2,true) W)):=aen fun W=>HV.out W;clear HV;have HV:=QD;clear QD;have common:∀(w1:World),Below ((w.alloc (.cells #[.string a.id,.slice AC a.cl.length cC,.slice AP a.pr.length cP] 43)).alloc (.cells #[.string ⟨#[]⟩,.slice none 0 0,.slice none 0 0] 43)).heap.size ((w.alloc (.cells #[.string a.id,.slice AC a.cl.length cC,.slice AP a.pr.length cP] 43)).alloc (.cells #[.string ⟨#[]⟩,.slice none 0 0,.slice none 0 0] 43)) w1→
      w.heap.size+1<w1.heap.size∧ae w1 w.heap.size 43 #[.string a.id,.slice AC a.cl.length cC,.slice AP a.pr.length cP]∧ae w1 (w.heap.size+1) 43 #[.string ⟨#[]⟩,.slice none 0 0,.slice none 0 0]∧aZ w1 base a (.slice AC a.cl.length cC) (.slice AP a.pr.length cP)∧Below base w w1:=fun w1 b1=>by
      have hzz:=b1.size;simp only[sZ] at hzz;exact⟨by omega,K1.out.below b1 (by simp;omega),K2.out.below b1 (by simp),KO.out.below b1,(KB.out.mono hle).trans (b1.mono (by simp;omega))⟩
     have KC:=aen common;clear common;cases hk
     ·by_cases hl:32≤a.pr.length
      ·have hE:Hid (E1=3):=aen (by rw[JZ.out,if_neg (by decide),if_pos hl]);go_enter Tryz.func246,Tryz.ntmps246;go_wp2_with fail;with_reducible refine(HW.out _).mono ?_
       rintro e w1 ⟨rfl,rfl⟩;go_wp2_with fail;with_reducible refine(HN.out _).mono ?_
       rintro e w1 ⟨rfl,rfl⟩;go_wp2_with fail;with_reducible refine(HV.out _).mono ?_
       rintro e w1 ⟨rfl,b1⟩;obtain⟨hzz,B1,B2,O1,b2⟩:=KC.out w1 b1;have KF:=aen (CU O1 B2 (by omega));have yx:=aen O1;have yz:=aen b2;have j0:=B1.cell 0;have j1:=B1.cell 1;have j2:=B1.cell 2;have k0:=B2.cell 0;have k1:=B2.cell 1;have k2:=B2.cell 2;simp at j0 j1 j2 k0 k1 k2;have m0:=B2.frozen 0;have m1:=B2.frozen 1;have m2:=B2.frozen 2;clear B1 B2 b1 O1 b2;go_wp2_with fail;with_reducible refine(HK.out _ (Reads.of_own yx.out.aH)).mono ?_
       rintro e w4 ⟨rfl,rfl⟩;go_wp2_with fail;refine qx KF.out.1 rfl rfl rfl rfl ?_;rw[hT2.out,J3.out,hE.out,if_neg (by decide)];exact⟨_,0,rfl,fun h=>absurd h (by simp),KF.out.2.1.val,yz.out.trans KF.out.2.2⟩
      ·have hE:Hid (E1=0):=aen (by rw[JZ.out,if_neg (by decide),if_neg hl]);have hl':a.pr.length<32:=by omega
       go_enter Tryz.func246,Tryz.ntmps246;go_wp2_with fail;with_reducible refine(HW.out _).mono ?_
       rintro e w1 ⟨rfl,rfl⟩;go_wp2_with fail;with_reducible refine(HN.out _).mono ?_
       rintro e w1 ⟨rfl,rfl⟩;go_wp2_with fail;with_reducible refine(HV.out _).mono ?_
       rintro e w1 ⟨rfl,b1⟩;obtain⟨hzz,B1,B2,O1,b2⟩:=KC.out w1 b1;have yx:=aen O1;have yz:=aen b2;have YN:=aen B1;have YO:=aen B2;have j0:=B1.cell 0;have j1:=B1.cell 1;have j2:=B1.cell 2;simp at j0 j1 j2;clear B1 B2 b1 O1 b2;go_wp2_with fail;with_reducible refine(HK.out _ (Reads.of_own yx.out.aH)).mono ?_
       rintro e w4 ⟨rfl,rfl⟩;go_wp2_with (at_builtin;refine wpList_append_own _ rfl _ _ 41 rfl base 81 i0 _ 2 32 Tryz.underlying41 hi0 hz0 hz1 hz2 rfl (by decide) _ _ _ rfl (yx.out.aH.alloc _) ⟨w1.heap.size,0,none⟩ 1 1 [.string (s.extract i t),.string v] rfl rfl ?c1 ?c2 ?c3 ?c4 ?c5 ?_);case c1=>
        intro j u hj;match j,hj with
        |0,hj=>simp at hj;subst hj;simp[Addr.add]
        |1,hj=>simp at hj;subst hj;simp[Addr.add]
       case c2=>intro u hu;simp at hu;rcases hu with rfl|rfl <;> rfl
       case c3=>unfold maxLen;omega
       case c4=>omega
       case c5=>simp;omega
       intro v' w2 hown2 hgrow _;obtain⟨A2,c2,rfl⟩:=ay hown2;obtain⟨⟨B1,B2⟩,hd⟩:=YJ yx.out YN.out YO.out (by omega) hle hown2 hgrow hl';have HD:=aen hd;clear hd hown2 hgrow;have f2:=B1.frozen 2;have m2:=B2.frozen 0;have m3:=B2.frozen 1;have m4:=B2.frozen 2;have j0:=B1.cell 0;have j1:=B1.cell 1;have j2:=B1.cell 2;have j3:=B2.cell 0;have j4:=B2.cell 1;have j5:=B2.cell 2;simp at j0 j1 j2 j3 j4 j5;clear B1 B2;go_wp2;refine qx HD.out.1 rfl rfl rfl rfl ?_;rw[hT2.out,J3.out,hE.out,if_pos rfl,BX.out];exact⟨_,t2,rfl,fun _=>rfl,HD.out.2.1.val,yz.out.trans HD.out.2.2⟩
     ·have hE:Hid (E1=7):=aen (by rw[JZ.out,if_pos rfl]);go_enter Tryz.func246,Tryz.ntmps246;go_wp2_with fail;with_reducible refine(HW.out _).mono ?_
      rintro e w1 ⟨rfl,rfl⟩;go_wp2_with fail;with_reducible refine(HN.out _).mono ?_
      rintro e w1 ⟨rfl,rfl⟩;go_wp2_with fail;with_reducible refine(HV.out _).mono ?_
      rintro e w1 ⟨rfl,b1⟩;obtain⟨hzz,B1,B2,O1,b2⟩:=KC.out w1 b1;have KF:=aen (CU O1 B2 (by omega));have yx:=aen O1;have yz:=aen b2;have j0:=B1.cell 0;have j1:=B1.cell 1;have j2:=B1.cell 2;have k0:=B2.cell 0;have k1:=B2.cell 1;have k2:=B2.cell 2;simp at j0 j1 j2 k0 k1 k2;have m0:=B2.frozen 0;have m1:=B2.frozen 1;have m2:=B2.frozen 2;clear B1 B2 b1 O1 b2;go_wp2_with fail;with_reducible refine(HK.out _ (Reads.of_own yx.out.aH)).mono ?_
      rintro e w4 ⟨rfl,rfl⟩;go_wp2_with fail;refine qx KF.out.1 rfl rfl rfl rfl ?_;rw[hT2.out,J3.out,hE.out,if_neg (by decide)];exact⟨_,0,rfl,fun h=>absurd h (by simp),KF.out.2.1.val,yz.out.trans KF.out.2.2⟩
   ·have z3:(((s[t].toNat:Nat):Int) != 61)=true:=by rw[get_bt s t ht];simp;omega
    have d1:decide (s.size≤t)=false:=aep (by omega);have hT:Hid (T=(0,5,a)):=aen (by rw[HI.out,if_pos rfl,xO.out,if_neg (fun h=>qW h.2)]);clear qW;go_enter Tryz.func246,Tryz.ntmps246;go_wp2_with fail;with_reducible refine(HW.out _).mono ?_
    rintro e w1 ⟨rfl,rfl⟩;go_wp2_with fail;with_reducible refine(HN.out _).mono ?_
    rintro e w1 ⟨rfl,rfl⟩;go_wp2_with fail;refine qx HT.out.1 rfl rfl rfl rfl ?_;rw[hT.out];exact⟨_,0,rfl,fun _=>rfl,HT.out.2.1.val,HT.out.2.2.mono hle⟩
  ·have d1:decide (s.size≤t)=true:=aeq (by omega);have hT:Hid (T=(0,5,a)):=aen (by rw[HI.out,if_pos rfl,xO.out,if_neg (fun h=>ht h.1)]);go_enter Tryz.func246,Tryz.ntmps246;go_wp2_with fail;with_reducible refine(HW.out _).mono ?_
   rintro e w1 ⟨rfl,rfl⟩;go_wp2_with fail;with_reducible refine(HN.out _).mono ?_
   rintro e w1 ⟨rfl,rfl⟩;go_wp2_with fail;refine qx HT.out.1 rfl rfl rfl rfl ?_;rw[hT.out];exact⟨_,0,rfl,fun _=>rfl,HT.out.2.1.val,HT.out.2.2.mono hle⟩
theorem YP(w:World)(base:Nat)(a:AttrL)(vC vP:Value)(s:ByteArray)(i:Nat)(h:aZ w base a vC vP)(hs:s.size≤1000000)(hi:i<s.size) :
 Calls prog 246 #[.agg #[.string a.id,vC,vP],.string s,.int .i64 i] w (FP (bG a s i) base w):=by
 by_cases h1:bt s i=35
 ·exact YK w base a vC vP s i h hs hi h1
 ·by_cases h2:bt s i=46
  ·exact YL w base a vC vP s i h hs hi h2
  ·exact YM w base a vC vP s i h hs hi h1 h2
theorem xe{W:World}{g:Nat}{x y z a5 a6:Value}{P:Ending→World→Prop}{act:Act}(hr:ae W g 43 #[x,y,z])(h4:act.tmps.getD 4 undef=.pointer (some ⟨g,0,none⟩))
 (h5:act.tmps.getD 5 undef=a5) (h6:act.tmps.getD 6 undef=a6) (hd:act.defers=[]) (hP:P (.returned (.tuple #[.agg #[x,y,z],a5,a6])) W):bodyPost prog Tryz.f219 P Exit.ret act W:=by
 have c0:W.cell? ⟨g,0,none⟩=some x:=hr.cell 0;have c1:W.cell? ⟨g,1,none⟩=some y:=hr.cell 1;have c2:W.cell? ⟨g,2,none⟩=some z:=hr.cell 2;refine bodyPost_ret (v:=.tuple #[.agg #[x,y,z],a5,a6]) ?_ hd hP;rw[aew] at h4 h5 h6;simp[results,Tryz.results219,go_sem,h4,h5,h6,c0,c1,c2]
structure RInv(w:World)(a:AttrL)(wr:World):Prop where
 res:ae wr w.heap.size 43 #[.string ⟨#[]⟩,.slice none 0 0,.slice none 0 0]
 att:iY wr (w.heap.size+1) (w.heap.size+1+1) a
 bel:Below w.heap.size w wr
theorem YQ(w:World):RInv w ak ((w.alloc (.cells #[.string ⟨#[]⟩,.slice none 0 0,.slice none 0 0] 43)).alloc (.cells #[.string ⟨#[]⟩,.slice none 0 0,.slice none 0 0] 43)):=by
 refine⟨(ae.new _ _ _).alloc _,⟨.slice none 0 0,.slice none 0 0,?_,World.ownsRow_nil _ _ _ _,World.ownsRow_nil _ _ _ _,by omega,by simp,by decide,by decide⟩,((aer _ _).alloc (aeo _) _).alloc (by simp) _⟩;have:=ae.new (w.alloc (.cells #[.string ⟨#[]⟩,.slice none 0 0,.slice none 0 0] 43)) 43 #[.string ⟨#[]⟩,.slice none 0 0,.slice none 0 0];show ae _ _ _ #[.string ⟨#[]⟩,.slice none 0 0,.slice none 0 0];simpa using this
theorem J5{w wr:World}(hr:ae wr w.heap.size 43 #[.string ⟨#[]⟩,.slice none 0 0,.slice none 0 0])(hb:Below w.heap.size w wr) :
 ae (((wr.setCell ⟨w.heap.size,0,none⟩ (.string ⟨#[]⟩)).setCell ⟨w.heap.size,1,none⟩ (.slice none 0 0)).setCell ⟨w.heap.size,2,none⟩ (.slice none 0 0)) w.heap.size 43 #[.string ⟨#[]⟩,.slice none 0 0,.slice none 0 0]∧
 tC (((wr.setCell ⟨w.heap.size,0,none⟩ (.string ⟨#[]⟩)).setCell ⟨w.heap.size,1,none⟩ (.slice none 0 0)).setCell ⟨w.heap.size,2,none⟩ (.slice none 0 0)) w.heap.size (.agg #[.string ⟨#[]⟩,.slice none 0 0,.slice none 0 0]) ak∧
 Below w.heap.size w (((wr.setCell ⟨w.heap.size,0,none⟩ (.string ⟨#[]⟩)).setCell ⟨w.heap.size,1,none⟩ (.slice none 0 0)).setCell ⟨w.heap.size,2,none⟩ (.slice none 0 0)):=by
 refine⟨?_,⟨⟨_,_,rfl,World.ownsRow_nil _ _ _ _,World.ownsRow_nil _ _ _ _⟩,by decide,by decide⟩,((hb.setCell (by simp) _).setCell (by simp) _).setCell (by simp) _⟩;have:=((hr.bJ 0 (.string ⟨#[]⟩)).bJ 1 (.slice none 0 0)).bJ 2 (.slice none 0 0);simpa using this
theorem YR{w wr:World}{a:AttrL}{vC vP:Value}(h:RInv w a wr)(hA:tu wr (w.heap.size+1) (w.heap.size+1+1) a vC vP) :
 ae (((wr.setCell ⟨w.heap.size,0,none⟩ (.string a.id)).setCell ⟨w.heap.size,1,none⟩ vC).setCell ⟨w.heap.size,2,none⟩ vP) w.heap.size 43 #[.string a.id,vC,vP]∧
 tC (((wr.setCell ⟨w.heap.size,0,none⟩ (.string a.id)).setCell ⟨w.heap.size,1,none⟩ vC).setCell ⟨w.heap.size,2,none⟩ vP) w.heap.size (.agg #[.string a.id,vC,vP]) a∧
 Below w.heap.size w (((wr.setCell ⟨w.heap.size,0,none⟩ (.string a.id)).setCell ⟨w.heap.size,1,none⟩ vC).setCell ⟨w.heap.size,2,none⟩ vP):=by
 refine⟨?_,⟨⟨_,_,rfl,?_,?_⟩,hA.c32,hA.p32⟩,((h.bel.setCell (by simp) _).setCell (by simp) _).setCell (by simp) _⟩
 ·have:=((h.res.bJ 0 (.string a.id)).bJ 1 vC).bJ 2 vP;simpa using this
 ·exact Fa (ownsRow_setCell_below (ownsRow_setCell_below (ownsRow_setCell_below hA.cls (by simp;omega) _) (by simp;omega) _) (by simp;omega) _) (by omega)
 ·exact Fa (ownsRow_setCell_below (ownsRow_setCell_below (ownsRow_setCell_below hA.aH (by simp;omega) _) (by simp;omega) _) (by simp;omega) _) (by omega)
theorem FU{w wr w1:World}{a a1:AttrL}{vC vP:Value}(h:RInv w a wr)(hb:Below (w.heap.size+1+1) wr w1)(h1:w1.ownsRow (w.heap.size+1+1) 9 1 vC a1.cl.length (strs a1.cl))(h2:w1.ownsRow (w.heap.size+1+1) 81 2 vP a1.pr.length (aH a1.pr))(h3:a1.cl.length≤32)(h4:a1.pr.length≤32)(o:Obj) :
 (w.heap.size+1<w1.heap.size∧ae w1 w.heap.size 43 #[.string ⟨#[]⟩,.slice none 0 0,.slice none 0 0]∧∃x y z,ae w1 (w.heap.size+1) 43 #[x,y,z])∧Below w.heap.size w w1∧
 RInv w a1 ((((w1.setCell ⟨w.heap.size+1,0,none⟩ (.string a1.id)).setCell ⟨w.heap.size+1,1,none⟩ vC).setCell ⟨w.heap.size+1,2,none⟩ vP).alloc o):=by
 obtain⟨uC,uP,hA⟩:=h.att;have B1:=h.res.below hb (by omega);have B2:=hA.blk.below hb (by omega);have hbb:=h.bel.trans (hb.mono (B':=w.heap.size) (by omega));have hsz:w.heap.size+1+1≤w1.heap.size:=aev hA.le hb.size;refine⟨⟨by omega,B1,_,_,_,B2⟩,hbb,?_⟩;refine⟨(((B1.far (by simp) _).far (by simp) _).far (by simp) _).alloc _,⟨vC,vP,?_,?_,?_,by omega,by simp[World.setCell];omega,h3,h4⟩,?_⟩
 ·have:=(((B2.bJ 0 (.string a1.id)).bJ 1 vC).bJ 2 vP).alloc o;simpa using this
 ·exact(ownsRow_setCell_below (ownsRow_setCell_below (ownsRow_setCell_below h1 (by simp) _) (by simp) _) (by simp) _).alloc _
 ·exact(ownsRow_setCell_below (ownsRow_setCell_below (ownsRow_setCell_below h2 (by simp) _) (by simp) _) (by simp) _).alloc _
 ·exact(((hbb.setCell (by simp) _).setCell (by simp) _).setCell (by simp) _).alloc (by simp[World.setCell];omega) _
theorem YS(w:World)(s:ByteArray)(n:Nat)(hs:s.size≤1000000)(hn:n<s.size)(hb:bt s n=123) :
 Calls prog 219 #[.string s,.int .i64 n] w (wM (fV s (s.size+1) (bW s (n+1)) true ak) w):=by
 have hlt:((s[n].toNat:Nat):Int)<256:=by rw[get_bt s n hn];have:=aK s n;omega
 have z1:(((s[n].toNat:Nat):Int) != 123)=false:=by rw[get_bt s n hn,hb];rfl
 have d1:decide (s.size≤n)=false:=aep (by omega);clear hb;have HS:=aen (YQ w);generalize hR:fV s (s.size+1) (bW s (n+1)) true ak=R at *;have HR:=aen hR;clear hR;go_enter Tryz.func219,Tryz.ntmps219;go_wp2_with fail;go_loopw [8,9] (fun p m wr=>∃(k c f:Nat) (b:Bool) (a:AttrL),p=.int .i64 k∧m=.int .i64 c∧Hid (b=(c==0||decide (k<bW s k)))∧Hid (RInv w a wr)∧Hid (fV s f (bW s k) b a=R)∧s.size<bW s k+f∧k≤s.size∧c<k) (fun p _ _=>s.size - (intOf p).toNat);case atStart=>exact⟨n+1,0,s.size+1,true,ak,by go_num,rfl,aen rfl,HS,HR,by omega,by omega,by omega⟩
 case round=>
  obtain⟨k,c,f,b,a,rfl,rfl,Kb,KI,KR,xU,hks,hck⟩:=hrel;have hsp:=xP s (s.size - k) k;have hsp1:k≤bW s k:=hsp.1;have hsp2:bW s k≤s.size:=hsp.2 hks;clear hsp;have FV:Hid (gq s (s.size - k) k=bW s k):=aen rfl;have hcs:c≤s.size:=by omega
  go_wp2_with fail;generalize bW s k=Q at *;obtain⟨wo,rfl⟩:∃wo:World,wo=wr:=⟨_,rfl⟩;go_loop [10] (fun q=>∃i f2:Nat,q=.int .i64 i∧Hid (gq s f2 i=Q)∧s.size - i≤f2∧i≤s.size∧k≤i) (fun q=>s.size - (intOf q).toNat);case atStart=>exact⟨k,s.size - k,rfl,FV,aeo _,hks,aeo _⟩
  case round=>
   obtain⟨i,f2,rfl,K2,hf2,hi,hki⟩:=hrel;have c0:=KI.out.res.cell 0;have c1:=KI.out.res.cell 1;have c2:=KI.out.res.cell 2;simp at c0 c1 c2;have q0:=KI.out.res.frozen 0;have q1:=KI.out.res.frozen 1;have q2:=KI.out.res.frozen 2;have HF:=aen (J5 KI.out.res KI.out.bel);obtain⟨vC,vP,hA⟩:=KI.out.att;have KA:=aen hA;have a0:=hA.blk.cell 0;have a1:=hA.blk.cell 1;have a2:=hA.blk.cell 2;have b0:=hA.blk.frozen 0;have b1:=hA.blk.frozen 1;have b2:=hA.blk.frozen 2;obtain⟨AC,cC,rfl⟩:=ay hA.cls;obtain⟨AP,cP,rfl⟩:=ay hA.aH;simp at a0 a1 a2;clear hA;by_cases hil:i<s.size
   ·have hli:((s[i].toNat:Nat):Int)<256:=by rw[get_bt s i hil];have:=aK s i;omega
    by_cases h32:bt s i=32
    ·have z2:(((s[i].toNat:Nat):Int)==32)=true:=by rw[get_bt s i hil,h32];rfl
     have hst:=aen (O9 s f2 i hil h32 hf2);clear h32;go_wp2;go_round;case rel=>exact⟨i+1,f2 - 1,by go_num,aen (by rw[←K2.out,hst.out]),by omega,by omega,by omega⟩
     case measure=>simp[intOf];omega
    ·have z2:(((s[i].toNat:Nat):Int)==32)=false:=by rw[get_bt s i hil,aes];omega
     have hQ:Q=i:=by rw[←K2.out,zY s f2 i (fun h=>h32 h.2)]
     clear h32;subst hQ;have dQ:decide (s.size≤Q)=false:=aep (by omega);by_cases lQ:bt s Q=125
     ·have z3:(((s[Q].toNat:Nat):Int)==125)=true:=by rw[get_bt s Q hil,lQ];rfl
      have hT:Hid (R=(a,Q+1,0)):=aen (by rw[←KR.out,Pn s f Q b a hil xU lQ]);have hfin:=aen (YR KI.out KA.out);clear lQ;go_wp2;refine xe hfin.out.1 rfl rfl rfl rfl ?_;rw[hT.out];exact⟨_,rfl,hfin.out.2.1,hfin.out.2.2⟩
     ·have z3:(((s[Q].toNat:Nat):Int)==125)=false:=by rw[get_bt s Q hil,aes];omega
      have HI:=aen (YP wo (w.heap.size+1+1) a (.slice AC a.cl.length cC) (.slice AP a.pr.length cP) s Q ⟨KA.out.cls,KA.out.aH,KA.out.le,KA.out.c32,KA.out.p32⟩ hs hil);have hbd:=aen (BZ a s Q hil);have J6:=aen (Po s f Q a hil lQ);have hbad:=aen (Pq s f Q a hil xU lQ);have qX:=aen (Pv s f Q a hil xU lQ);clear lQ;by_cases hc0:0<c
      ·have dc:decide (0<c)=true:=aeq hc0;by_cases hqk:k=Q
       ·have z4:((Q:Int)==(k:Int))=true:=by rw[hqk];exact beq_self_eq_true _
        have z5:(Q==k)=true:=by rw[hqk];exact beq_self_eq_true _
        have hT:Hid (R=(ak,0,5)):=aen (by rw[←KR.out,Kb.out,show (c==0)=false by simp;omega,show decide (k<Q)=false by simp;omega,←J6.out];rfl);clear hqk qX hbad hbd;go_wp2;refine xe HF.out.1 rfl rfl rfl rfl ?_;rw[hT.out];exact⟨_,rfl,HF.out.2.1,HF.out.2.2⟩
       ·have z4:((Q:Int)==(k:Int))=false:=by rw[aes];omega
        have z5:(Q==k)=false:=by rw[aes];omega
        have HB:Hid (b=true):=aen (by rw[Kb.out,show decide (k<Q)=true by simp;omega];simp);clear hqk;generalize bG a s Q=T at *;obtain⟨t,en,a1⟩:=T;clear J6;by_cases he:en=0
        ·obtain⟨hb1,hb2⟩:=hbd.out he;have hN:=aen (qX.out he);clear qX hbad;subst he;have yA:=xP s (s.size - t) t;have YT:t≤bW s t:=yA.1;have YU:bW s t≤s.size:=yA.2 hb2;clear yA;go_wp2_with fail;with_reducible refine HI.out.mono ?_
         rintro e w2 ⟨v,t2,rfl,ht2,⟨⟨FQ,FT,rfl,hc1,hp1⟩,h32,p32⟩,hbel⟩;obtain rfl:t2=t:=ht2 rfl;clear ht2;obtain⟨A2,e2,rfl⟩:=ay hc1;obtain⟨A3,e3,rfl⟩:=ay hp1;obtain⟨⟨hz,R1,x,y,z,R2⟩,hbe,hin⟩:=FU KI.out hbel hc1 hp1 h32 p32 (.cells #[.string a1.id,.slice A2 a1.cl.length e2,.slice A3 a1.pr.length e3] 43);have J7:=aen hin;have k0:=R2.cell 0;have k1:=R2.cell 1;have k2:=R2.cell 2;simp at k0 k1 k2;have m0:=R2.frozen 0;have m1:=R2.frozen 1;have m2:=R2.frozen 2;clear hin R1 R2 hbel hc1 hp1;go_wp2;go_roundw;case rel=>exact⟨t2,c+1,f - 1,decide (t2<bW s t2),a1,rfl,by go_num,aen (by simp),J7,aen (by rw[←KR.out,HB.out,hN.out]),by omega,hb2,by omega⟩
         case measure=>simp[intOf];omega
        ·have hT:Hid (R=(ak,0,en)):=aen (by rw[←KR.out,HB.out,hbad.out he]);have z5:((en:Int) != 0)=true:=by simp;exact he
         clear qX hbad hbd;go_wp2_with fail;with_reducible refine HI.out.mono ?_
         rintro e w2 ⟨v,t2,rfl,ht2,⟨⟨FQ,FT,rfl,hc1,hp1⟩,h32,p32⟩,hbel⟩;obtain⟨A2,e2,rfl⟩:=ay hc1;obtain⟨A3,e3,rfl⟩:=ay hp1;obtain⟨⟨hz,R1,x,y,z,R2⟩,hbe,hin⟩:=FU KI.out hbel hc1 hp1 h32 p32 (.cells #[.string a1.id,.slice A2 a1.cl.length e2,.slice A3 a1.pr.length e3] 43);have hz0:w.heap.size<w2.heap.size:=by omega
         have yB:=aen (J5 R1 hbe);have k0:=R1.cell 0;have k1:=R1.cell 1;have k2:=R1.cell 2;simp at k0 k1 k2;have m0:=R1.frozen 0;have m1:=R1.frozen 1;have m2:=R1.frozen 2;clear hin R1 R2 hbel hc1 hp1 ht2;go_wp2;refine xe (yB.out.1.alloc _) rfl rfl rfl rfl ?_;rw[hT.out];exact⟨_,rfl,⟨⟨_,_,rfl,World.ownsRow_nil _ _ _ _,World.ownsRow_nil _ _ _ _⟩,Nat.zero_le 32,Nat.zero_le 32⟩,yB.out.2.2.alloc (by have:=yB.out.2.2.size;omega) _⟩
      ·have dc:decide (0<c)=false:=aep hc0;have HB:Hid (b=true):=aen (by rw[Kb.out,show (c==0)=true by simp;omega];rfl);generalize bG a s Q=T at *;obtain⟨t,en,a1⟩:=T;clear J6;by_cases he:en=0
       ·obtain⟨hb1,hb2⟩:=hbd.out he;have hN:=aen (qX.out he);clear qX hbad;subst he;have yA:=xP s (s.size - t) t;have YT:t≤bW s t:=yA.1;have YU:bW s t≤s.size:=yA.2 hb2;clear yA;go_wp2_with fail;with_reducible refine HI.out.mono ?_
        rintro e w2 ⟨v,t2,rfl,ht2,⟨⟨FQ,FT,rfl,hc1,hp1⟩,h32,p32⟩,hbel⟩;obtain rfl:t2=t:=ht2 rfl;clear ht2;obtain⟨A2,e2,rfl⟩:=ay hc1;obtain⟨A3,e3,rfl⟩:=ay hp1;obtain⟨⟨hz,R1,x,y,z,R2⟩,hbe,hin⟩:=FU KI.out hbel hc1 hp1 h32 p32 (.cells #[.string a1.id,.slice A2 a1.cl.length e2,.slice A3 a1.pr.length e3] 43);have J7:=aen hin;have k0:=R2.cell 0;have k1:=R2.cell 1;have k2:=R2.cell 2;simp at k0 k1 k2;have m0:=R2.frozen 0;have m1:=R2.frozen 1;have m2:=R2.frozen 2;clear hin R1 R2 hbel hc1 hp1;go_wp2;go_roundw;case rel=>exact⟨t2,c+1,f - 1,decide (t2<bW s t2),a1,rfl,by go_num,aen (by simp),J7,aen (by rw[←KR.out,HB.out,hN.out]),by omega,hb2,by omega⟩
        case measure=>simp[intOf];omega
       ·have hT:Hid (R=(ak,0,en)):=aen (by rw[←KR.out,HB.out,hbad.out he]);have z5:((en:Int) != 0)=true:=by simp;exact he
        clear qX hbad hbd;go_wp2_with fail;with_reducible refine HI.out.mono ?_
        rintro e w2 ⟨v,t2,rfl,ht2,⟨⟨FQ,FT,rfl,hc1,hp1⟩,h32,p32⟩,hbel⟩;obtain⟨A2,e2,rfl⟩:=ay hc1;obtain⟨A3,e3,rfl⟩:=ay hp1;obtain⟨⟨hz,R1,x,y,z,R2⟩,hbe,hin⟩:=FU KI.out hbel hc1 hp1 h32 p32 (.cells #[.string a1.id,.slice A2 a1.cl.length e2,.slice A3 a1.pr.length e3] 43);have hz0:w.heap.size<w2.heap.size:=by omega
        have yB:=aen (J5 R1 hbe);have k0:=R1.cell 0;have k1:=R1.cell 1;have k2:=R1.cell 2;simp at k0 k1 k2;have m0:=R1.frozen 0;have m1:=R1.frozen 1;have m2:=R1.frozen 2;clear hin R1 R2 hbel hc1 hp1 ht2;go_wp2;refine xe (yB.out.1.alloc _) rfl rfl rfl rfl ?_;rw[hT.out];exact⟨_,rfl,⟨⟨_,_,rfl,World.ownsRow_nil _ _ _ _,World.ownsRow_nil _ _ _ _⟩,Nat.zero_le 32,Nat.zero_le 32⟩,yB.out.2.2.alloc (by have:=yB.out.2.2.size;omega) _⟩
   ·have hQ:Q=i:=by rw[←K2.out,zY s f2 i (fun h=>hil h.1)]
    subst hQ;have dQ:decide (s.size≤Q)=true:=aeq (by omega);have hT:Hid (R=(ak,0,5)):=aen (by rw[←KR.out,Pm s f Q b a hil]);go_wp2;refine xe HF.out.1 rfl rfl rfl rfl ?_;rw[hT.out];exact⟨_,rfl,HF.out.2.1,HF.out.2.2⟩
theorem YV(w:World):ae (w.alloc (.cells #[.string ⟨#[]⟩,.slice none 0 0,.slice none 0 0] 43)) w.heap.size 43 #[.string ⟨#[]⟩,.slice none 0 0,.slice none 0 0]∧tC (w.alloc (.cells #[.string ⟨#[]⟩,.slice none 0 0,.slice none 0 0] 43)) w.heap.size (.agg #[.string ⟨#[]⟩,.slice none 0 0,.slice none 0 0]) ak∧Below w.heap.size w (w.alloc (.cells #[.string ⟨#[]⟩,.slice none 0 0,.slice none 0 0] 43)):=
 ⟨ae.new _ _ _,⟨⟨_,_,rfl,World.ownsRow_nil _ _ _ _,World.ownsRow_nil _ _ _ _⟩,by decide,by decide⟩,(aer _ _).alloc (aeo _) _⟩
theorem YW(w:World)(s:ByteArray)(i:Int)(hs:s.size≤1000000)(h:i<0∨(0≤i∧(s.size:Int)≤i)∨(∃n:Nat,i=n∧n<s.size∧bt s n≠123)) :
 Calls prog 219 #[.string s,.int .i64 i] w (wM (ak,0,5) w):=by
 have hfin:=aen (YV w);rcases h with h|⟨h0,h⟩|⟨n,rfl,hn,hb⟩
 ·have d0:decide (i<0)=true:=aeq h;go_enter Tryz.func219,Tryz.ntmps219;go_wp2;refine xe hfin.out.1 rfl rfl rfl rfl ?_;exact⟨_,rfl,hfin.out.2.1,hfin.out.2.2⟩
 ·have d0:decide (i<0)=false:=aep (by omega);have d1:decide ((s.size:Int)≤i)=true:=aeq h;go_enter Tryz.func219,Tryz.ntmps219;go_wp2;refine xe hfin.out.1 rfl rfl rfl rfl ?_;exact⟨_,rfl,hfin.out.2.1,hfin.out.2.2⟩
 ·have hlt:((s[n].toNat:Nat):Int)<256:=by rw[get_bt s n hn];have:=aK s n;omega
  have z1:(((s[n].toNat:Nat):Int) != 123)=true:=by rw[get_bt s n hn];simp;omega
  have d1:decide (s.size≤n)=false:=aep (by omega);clear hb;go_enter Tryz.func219,Tryz.ntmps219;go_wp2;refine xe hfin.out.1 rfl rfl rfl rfl ?_;exact⟨_,rfl,hfin.out.2.1,hfin.out.2.2⟩
theorem QE(w:World)(s:ByteArray)(i:Int)(hs:s.size≤1000000):Calls prog 219 #[.string s,.int .i64 i] w (wM (aN s i) w):=by
 unfold aN;by_cases h:0≤i∧i<s.size∧bt s i.toNat=123
 ·rw[if_pos h];obtain⟨n,rfl⟩:∃n:Nat,i=n:=⟨i.toNat,by omega⟩;exact YS w s n hs (by omega) h.2.2
 ·rw[if_neg h];refine YW w s i hs ?_;by_cases h0:i<0
  ·exact Or.inl h0
  ·by_cases h1:(s.size:Int)≤i
   ·exact Or.inr (Or.inl ⟨by omega,h1⟩)
   ·refine Or.inr (Or.inr ⟨i.toNat,by omega,by omega,fun hb=>h ⟨by omega,by omega,hb⟩⟩)
def jS(n:Nat)(a:AttrL):Prop:=a.id.size≤n∧(∀x∈a.cl,x.size≤n)∧(∀p∈a.pr,p.1.size≤n∧p.2.size≤n)
theorem yC(s:ByteArray)(i j:Nat):(s.extract i j).size≤s.size:=by rw[aex];omega
theorem YX(s:ByteArray)(i:Nat):(dM s i).1.size≤s.size:=by
 unfold dM;split
 ·cases hq:qv s s.size (i+1) [] with
  |none=>exact Nat.zero_le _
  |some p=>
   obtain⟨l,j⟩:=p;have:=(wK s _ _ _ l j hq).1;show (mk l).size≤_;rw[←bytesL_length,bytesL_mk'];simp at this;omega
 ·exact yC _ _ _
theorem YY(n:Nat)(a:AttrL)(x:ByteArray)(h:jS n a)(hx:x.size≤n):jS n (mO a x):=by
 unfold mO;split
 ·refine⟨h.1,fun y hy=>?_,h.2.2⟩;rcases List.mem_append.1 hy with hy|hy
  ·exact h.2.1 y hy
  ·simp at hy;subst hy;exact hx
 ·exact h
theorem YZ(n:Nat)(a:AttrL)(x y:ByteArray)(h:jS n a)(hx:x.size≤n)(hy:y.size≤n):jS n (qh a x y):=by
 unfold qh;split
 ·refine⟨h.1,h.2.1,fun p hp=>?_⟩;rcases List.mem_append.1 hp with hp|hp
  ·exact h.2.2 p hp
  ·simp at hp;subst hp;exact⟨hx,hy⟩
 ·exact h
theorem Y0(s:ByteArray)(a:AttrL)(i:Nat)(h:jS s.size a):jS s.size (bG a s i).2.2:=by
 unfold bG;split
 ·split
  ·split
   ·exact⟨yC _ _ _,h.2.1,h.2.2⟩
   ·exact h
  ·exact h
 ·split
  ·split
   ·exact YY _ _ _ h (yC _ _ _)
   ·exact h
  ·split
   ·unfold qV;split
    ·split
     ·exact YZ _ _ _ _ h (yC _ _ _) (YX _ _)
     ·exact h
    ·exact h
   ·exact h
theorem mY(n:Nat):jS n ak:=⟨Nat.zero_le _,fun x hx=>absurd hx (by simp[ak]),fun x hx=>absurd hx (by simp[ak])⟩
theorem QF(s:ByteArray):∀f i b a,jS s.size a→jS s.size (fV s f i b a).1
 |0,_,_,_,_=>mY _
 |f+1,i,b,a,h=>by
  unfold fV;split
  ·split
   ·exact h
   ·split
    ·exact mY _
    ·split
     ·exact QF s f _ _ _ (Y0 s a i h)
     ·exact mY _
  ·exact mY _
theorem QG(s:ByteArray)(i:Int):jS s.size (aN s i).1:=by
 unfold aN;split
 ·exact QF s _ _ _ _ (mY _)
 ·exact mY _
def oh:Option AttrL→AttrL × Bool
 |some a=>(a,true)
 |none=>(ak,false)
def closeD(c:ByteArray)(K N:Int)(ch:ByteArray):AttrL × Bool:=
 if K=7 then (ak,decide (ch.size=1∧1≤N)&&(decide (N≤(aI c (· != bt ch 0):Int))&&aF (c.extract (aI c (· != bt ch 0)) c.size)))
 else if K=8 then (if Lib.hasPrefix (bytesL c) [36,36]=true then oh (jq (c.extract 2 c.size)) else (ak,false))
 else if K=9 then (ak,decide (1≤N)&&(decide ((aI c (· != 58):Int)=N)&&aF (c.extract (aI c (· != 58)) c.size)))
 else (ak,false)
def fP(s:ByteArray)(K N:Int)(ch:ByteArray):AttrL × Bool:=if 3<ah s 0 then (ak,false) else closeD (s.extract (ah s 0) s.size) K N ch
def ug(r:AttrL × Bool)(w:World)(e:Ending)(w':World):Prop:=(∃vC vP,e=.returned (.tuple #[.agg #[.string r.1.id,vC,vP],.bool r.2])∧aZ w' w.heap.size r.1 vC vP)∧Below w.heap.size w w'
theorem FW{n m:Nat}{a:AttrL}(h:jS n a)(hn:n≤m):jS m a:=⟨aev h.1 hn,fun x hx=>aev (h.2.1 x hx) hn,fun p hp=>⟨aev (h.2.2 p hp).1 hn,aev (h.2.2 p hp).2 hn⟩⟩
theorem Y1(s:ByteArray)(a:AttrL)(h:jq s=some a):jS s.size a:=by
 have hz:(mk (trimS (bytesL s))).size≤s.size:=by rw[mk_size];have:=pY (bytesL s);rwa [bytesL_length] at this
 unfold jq at h;split at h
 ·injection h with h;subst h;exact mY _
 ·split at h
  ·injection h with h;subst h;exact FW (QG _ _) hz
  ·cases h
def iL(a b:ag):Bool:=decide (a.kind=b.kind∧a.ch=b.ch∧(b.kind=6∧(b.off:Int) - 2 - (b.info.size:Int)<(a.off:Int)∨b.kind=5∧(b.off:Int) - 2<(a.off:Int)))
theorem Y2(a b:ag)(A1 A2 A3 A4:Option Addr)(n1 c1 n2 c2 n3 c3 n4 c4:Nat)(w:World)(ha:a.off≤2000000)(hb:b.off≤2000000)(hi:b.kind=6→b.info.size≤1000000) :
 Calls prog 118 #[.agg (a.cells (.slice A1 n1 c1) (.slice A2 n2 c2)),.agg (b.cells (.slice A3 n3 c3) (.slice A4 n4 c4))] w fun e w'=>e=.returned (.bool (iL a b))∧Below w.heap.size w w':=by
 have HR:Hid (iL a b=decide (a.kind=b.kind∧a.ch=b.ch∧(b.kind=6∧(b.off:Int) - 2 - (b.info.size:Int)<(a.off:Int)∨b.kind=5∧(b.off:Int) - 2<(a.off:Int)))):=aen rfl;generalize iL a b=R at *;obtain⟨ka,na,ca,oa,ia,ra,da,ta,aa⟩:=a;obtain⟨kb,nb,cb,ob,ib,rb,db,tb,ab⟩:=b;simp only[ag.cells] at *;by_cases hk:ka=kb;case neg=>
  have z1:(((ka:Nat):Int) != (kb:Int))=true:=by rw[aeB];omega
  have z2:(((ka:Nat):Int)==(kb:Int))=false:=by rw[aes];omega
  have HF:Hid (R=false):=aen (by rw[HR.out,aep (fun h=>hk h.1)]);clear HR;go_enter Tryz.func118,Tryz.ntmps118;go_wp2_with fail;go_ret;exact⟨aJ (by rw[HF.out]),(((aer _ w).alloc (aeo _) _).alloc (by simp) _)⟩
 subst hk;by_cases hc:ca=cb;case neg=>
  have z1:(ca.toList==cb.toList)=false:=(Lib.bytes_beq_false_iff _ _).2 hc;have HF:Hid (R=false):=aen (by rw[HR.out,aep (fun h=>hc h.2.1)]);clear HR;go_enter Tryz.func118,Tryz.ntmps118;go_wp2_with fail;go_ret;exact⟨aJ (by rw[HF.out]),(((aer _ w).alloc (aeo _) _).alloc (by simp) _)⟩
 subst hc;by_cases h6:ka=6
 ·subst h6;have HF:Hid (R=decide ((ob:Int) - 2 - (ib.size:Int)<(oa:Int))):=aen (by rw[HR.out];simp);replace hi:=hi rfl;clear HR;go_enter Tryz.func118,Tryz.ntmps118;go_wp2_with fail;go_ret;exact⟨aJ (by rw[HF.out]),(((aer _ w).alloc (aeo _) _).alloc (by simp) _)⟩
 by_cases h5:ka=5
 ·subst h5;have HF:Hid (R=decide ((ob:Int) - 2<(oa:Int))):=aen (by rw[HR.out];simp);clear HR;go_enter Tryz.func118,Tryz.ntmps118;go_wp2_with fail;go_ret;exact⟨aJ (by rw[HF.out]),(((aer _ w).alloc (aeo _) _).alloc (by simp) _)⟩
 ·have z5:(((ka:Nat):Int)==5)=false:=kF (by omega);have z6:(((ka:Nat):Int)==6)=false:=kF (by omega);have HF:Hid (R=false):=aen (by rw[HR.out];simp[h5,h6]);clear HR;go_enter Tryz.func118,Tryz.ntmps118;go_wp2_with fail;go_ret;exact⟨aJ (by rw[HF.out]),(((aer _ w).alloc (aeo _) _).alloc (by simp) _)⟩
def vH(m:ag):Int:=if m.kind=6 then (m.off:Int) - 2 - (m.info.size:Int) else (m.off:Int) - 2
theorem QH(b:ag)(A3 A4:Option Addr)(n3 c3 n4 c4:Nat)(w:World)(hb:b.off≤2000000)(hi:b.kind=6→b.info.size≤1000000) :
 Calls prog 187 #[.agg (b.cells (.slice A3 n3 c3) (.slice A4 n4 c4))] w fun e w'=>e=.returned (.int .i64 (vH b))∧Below w.heap.size w w':=by
 have HR:Hid (vH b=if b.kind=6 then (b.off:Int) - 2 - (b.info.size:Int) else (b.off:Int) - 2):=aen rfl;generalize vH b=R at *;obtain⟨kb,nb,cb,ob,ib,rb,db,tb,ab⟩:=b;simp only[ag.cells] at *;by_cases h6:kb=6
 ·subst h6;have HF:Hid (R=(ob:Int) - 2 - (ib.size:Int)):=aen (by rw[HR.out];simp);replace hi:=hi rfl;clear HR;go_enter Tryz.func187,Tryz.ntmps187;go_wp2_with fail;go_ret;exact⟨iy (by rw[HF.out]),((aer _ w).alloc (aeo _) _)⟩
 ·have z6:(((kb:Nat):Int)==6)=false:=kF (by omega);have HF:Hid (R=(ob:Int) - 2):=aen (by rw[HR.out,if_neg h6]);clear HR;go_enter Tryz.func187,Tryz.ntmps187;go_wp2_with fail;go_ret;exact⟨iy (by rw[HF.out]),((aer _ w).alloc (aeo _) _)⟩
end Go.Proofs.YtpoafhgbhnblmaaGreatDoor
