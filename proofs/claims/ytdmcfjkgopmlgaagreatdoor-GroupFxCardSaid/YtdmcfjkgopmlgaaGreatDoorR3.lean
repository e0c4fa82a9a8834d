import Derived.Test.YtdmcfjkgopmlgaaGreatDoorR2
import Derived.Laws.IdiomRangeMap
set_option linter.unusedVariables false
set_option linter.unusedSimpArgs false
set_option linter.unusedSectionVars false
namespace Go.Proofs.YtdmcfjkgopmlgaaGreatDoor.Ev
open Go
theorem zjs{h:LH}{i:Nat}{o:LO}(e:h[i]? =some o):i<h.length:=(zuJ.1 e).1
theorem zgb{h r:LH}{i:Nat}(hi:i<h.length):(h++r)[i]? =h[i]? :=zuK hi
theorem zt6{h r:LH}{i:Nat}{x:LO}(hi:i<h.length):(h++r).set i x=h.set i x++r:=zxA _ _ hi
theorem zga{h r:LH}{x:LO}:(h++x::r)[h.length]? =some x:=by rw[zuN (zuL _),zvG];rfl
theorem JZ{h r:LH}{k:Nat}:(h++r)[h.length+k]? =r[k]? :=by rw[zuN (by omega)];congr 1;omega
theorem zrh{h r:LH}{x y:LO}:(h++x::r).set h.length y=h++y::r:=by rw[zvO _ _ (zuL _),zvG];rfl
theorem zis{h r:LH}{k:Nat}{y:LO}:(h++r).set (h.length+k) y=h++r.set k y:=by rw[zvO _ _ (by omega)];congr 2;omega
theorem ztd{h:LH}{i j:Nat}{x:LO}(hne:i≠j):(h.set i x)[j]? =h[j]? :=zuR hne
structure Gr(h h':LH):Prop where
 le:h.length≤h'.length
 same:∀i,i<h.length→h'[i]? =h[i]?
theorem Gr.refl(h:LH):Gr h h:=⟨zuL _,fun _ _=>rfl⟩
theorem Gr.trans{a b c:LH}(x:Gr a b)(y:Gr b c):Gr a c:=⟨zvz x.le y.le,fun i hi=>(y.same i (zvB hi x.le)).trans (x.same i hi)⟩
theorem Gr.app{h h':LH}(x:Gr h h')(r:LH):Gr h (h'++r):=⟨by rw[zuM];have:=x.le;omega,fun i hi=>by rw[zgb (zvB hi x.le)];exact x.same i hi⟩
theorem Gr.self(h r:LH):Gr h (h++r):=(Gr.refl h).app r
theorem Gr.set{h h':LH}(x:Gr h h'){i:Nat}(o:LO)(hi:h.length≤i):Gr h (h'.set i o):=⟨by rw[zvi];exact x.le,fun j hj=>by rw[ztd (by omega)];exact x.same j hj⟩
theorem Gr.get{h h':LH}(x:Gr h h'){i:Nat}{o:LO}(e:h[i]? =some o):h'[i]? =some o:=by rw[x.same i (zjs e)];exact e
def ziY:LO→Option (Nat×List SV)
 | .own t vs=>some (t,vs)
 | .ro t vs=>some (t,vs)
 |_=>none
theorem zV{h:LH}{i:Nat}:cellsOf h i=(h[i]?).bind ziY:=by
 unfold cellsOf;cases h[i]? with
 |none=>rfl
 |some o=>cases o<;>rfl
theorem zab{t:Nat}{vs:List SV}:ziY (.own t vs)=some (t,vs):=rfl
theorem zln{t:Nat}{vs:List SV}:ziY (.ro t vs)=some (t,vs):=rfl
section
variable {α:Type} {enc:α→List SV} {t z:Nat}
def Ow(b:Nat)(h:LH)(t:Nat)(enc:α→List SV)(v:SV)(l:List α):Prop:=
 (l=[]∧v= .nils)∨∃j,b≤j∧v= .sl j 0 0 l.length∧h[j]? =some (.own t (l.flatMap enc))
theorem Ow.base{b b':Nat}{h:LH}{v:SV}{l:List α}(r:Ow b h t enc v l)(hb:b'≤b):Ow b' h t enc v l:=by
 rcases r with r|⟨j,r1,r2,r3⟩
 ·exact .inl r
 ·exact .inr ⟨j,by omega,r2,r3⟩
theorem zeA{h:LH}{t z y n:Nat}{new:List SV}(hn:n≠0)(hy:n*y≤140737488355328):ZF h t z y .nils n new=some (.s (.sl h.length 0 0 n),h++[.own t new]):=by unfold ZF;simp[hn,hy]
theorem zg5{h:LH}{t z y i p o n:Nat}{new:List SV}(hn:n≠0)(hy:n*y≤140737488355328):ZF h t z y (.sl0 i p o) n new=some (.s (.sl h.length 0 0 n),h++[.own t new]):=by unfold ZF;simp[hn,hy]
theorem zm1{h:LH}{t z y i p o m n:Nat}{vs new:List SV}(hi:h[i]? =some (.own t vs))(hn:n≠0)(hom:(o+m)*z≤vs.length)(hy:(m+n)*y≤140737488355328):
 ZF h t z y (.sl i p o m) n new=some (.s (.sl h.length 0 0 (m+n)),h.set i .dead++[.own t ((vs.drop (o*z)).take (m*z)++new)]):=by
 unfold ZF;simp[hn,hi,hom,hy]
theorem qB{h:LH}{t z y:Nat}{new:List SV}:ZF h t z y .nils 0 new=some (.s .nils,h):=by unfold ZF;simp
theorem Ys{h:LH}{t z y i p o:Nat}{new:List SV}:ZF h t z y (.sl0 i p o) 0 new=some (.s (.sl0 i p o),h):=by unfold ZF;simp
theorem zaw{h:LH}{t z y i p o m:Nat}{new:List SV}:ZF h t z y (.sl i p o m) 0 new=some (.s (.sl i p o m),h):=by unfold ZF;simp
def kill:SV→LH→LH
 | .sl i _ _ _,h=>h.set i .dead
 |_,h=>h
theorem znT{v:SV}{h:LH}:(kill v h).length=h.length:=by cases v<;>simp[kill]
theorem Ow.next{b:Nat}{h:LH}{v:SV}{l new:List α}{n:Nat}(hb:b≤h.length)(hn:n=l.length+new.length):Ow b (kill v h++[.own t (l.flatMap enc++new.flatMap enc)]) t enc (.sl h.length 0 0 n) (l++new):=by refine .inr ⟨h.length,hb,by rw[zuM,hn],?_⟩;have:(kill v h).length=h.length:=znT;rw[←this,zga,zvw]
end
structure GrBut(i:Nat)(h h':LH):Prop where
 le:h.length≤h'.length
 same:∀j,j<h.length→j≠i→h'[j]? =h[j]?
theorem Gr.but{h h':LH}(g:Gr h h')(i:Nat):GrBut i h h':=⟨g.le,fun j hj _=>g.same j hj⟩
def zY(n:Int):List SV:=[.int .i64 n]
theorem zG(n:Int):(zY n).length=1:=rfl
def zes(s:ByteArray):List SV:=[.str s]
theorem zhh(s:ByteArray):(zes s).length=1:=rfl
theorem ze{n:Int}(h0: -9223372036854775808≤n)(h1:n<9223372036854775808):IntKind.i64.wrap n=n:=by simp[IntKind.wrap,IntKind.bits,IntKind.signed];omega
def WPc(C:Nat→Option EF)(f:Nat)(args:List FV)(h:LH)(Φ:FV→LH→Prop):Prop:=∃v h',zy C f args h=some (v,h')∧Φ v h'
def WPk(C:Nat→Option EF)(c:EC)(fr:Fr)(h:LH)(Φ:Ex→Fr→LH→Prop):Prop:=∃x fr' h',zC (zy C) c fr h=some (x,fr',h')∧Φ x fr' h'
def WPo(C:Nat→Option EF)(l:List EG)(fr:Fr)(h:LH)(Φ:Fr→LH→Prop):Prop:=∃fr' h',jY (zy C) l fr h=some (fr',h')∧Φ fr' h'
def WPs(C:Nat→Option EF)(o:EO)(fr:Fr)(h:LH)(Φ:FV→LH→Prop):Prop:=∃v h',zK (zy C) fr h o=some (v,h')∧Φ v h'
def WPl(C:Nat→Option EF)(b:EC)(keep:List Nat)(fr:Fr)(h:LH)(Φ:Ex→Fr→LH→Prop):Prop:=∃x fr' h',zhG (zC (zy C) b) keep fr h=some (x,fr',h')∧Φ x fr' h'
def K(C:Nat→Option EF)(c:EC)(Φ:Ex→Fr→LH→Prop):Ex→Fr→LH→Prop:=fun x fr h=>match x with
 | .normal=>WPk C c fr h Φ
 |x=>Φ x fr h
def KB(id:Nat)(Φ:Ex→Fr→LH→Prop):Ex→Fr→LH→Prop:=fun x fr h=>match x with
 | .exit id'=>if id'=id then Φ .normal fr h else Φ (.exit id') fr h
 |x=>Φ x fr h
def KL(R:Fr→LH→Prop)(keep:List Nat)(Φ:Ex→Fr→LH→Prop):Ex→Fr→LH→Prop:=fun x fr h=>match x with
 | .normal=>R (zl keep fr) h
 |x=>Φ x fr h
def KR(res:List ER)(Φ:FV→LH→Prop):Ex→Fr→LH→Prop:=fun x fr h=>(x= .normal∨x= .ret)∧∃v,qR (jO fr h res) h=some (v,h)∧Φ v h
section
variable {C:Nat→Option EF} {Φ:Ex→Fr→LH→Prop} {fr:Fr} {h:LH}
theorem WPc.mono{f:Nat}{args:List FV}{Φ Ψ:FV→LH→Prop}(w:WPc C f args h Φ)(hm:∀v h',Φ v h'→Ψ v h'):WPc C f args h Ψ:=by obtain⟨v,h',a,b⟩:=w;exact⟨v,h',a,hm v h' b⟩
theorem WPk.mono{c:EC}{Φ Ψ:Ex→Fr→LH→Prop}(w:WPk C c fr h Φ)(hm:∀x fr' h',Φ x fr' h'→Ψ x fr' h'):WPk C c fr h Ψ:=by obtain⟨x,fr',h',a,b⟩:=w;exact⟨x,fr',h',a,hm x fr' h' b⟩
theorem WPl.mono{c:EC}{keep:List Nat}{Φ Ψ:Ex→Fr→LH→Prop}(w:WPl C c keep fr h Φ)(hm:∀x fr' h',Φ x fr' h'→Ψ x fr' h'):WPl C c keep fr h Ψ:=by obtain⟨x,fr',h',a,b⟩:=w;exact⟨x,fr',h',a,hm x fr' h' b⟩
theorem WPc.intro{f:Nat}{e:EF}(hf:C f=some e){args:List FV}(hl:args.length≤e.slots){Φ:FV→LH→Prop}(w:WPk C e.body (jj 0 args) h (KR e.res Φ)):WPc C f args h Φ:=by obtain⟨x,fr',h',a,hx,v,b,c⟩:=w;refine⟨v,h',JM hf hl ?_,c⟩;unfold zg9;rcases hx with rfl|rfl<;>rw[a]<;>exact b
theorem wp_seq{a b:EC}(w:WPk C a fr h (K C b Φ)):WPk C (.seq a b) fr h Φ:=by
 obtain⟨x,fr',h',e,r⟩:=w;cases x with
 |normal=>
  obtain⟨x2,fr2,h2,e2,r2⟩:=r;exact⟨x2,fr2,h2,by simp only[zC,e];exact e2,r2⟩
 |exit id=>exact⟨_,_,_,by simp only[zC,e],r⟩
 |goto l=>exact⟨_,_,_,by simp only[zC,e],r⟩
 |ret=>exact⟨_,_,_,by simp only[zC,e],r⟩
theorem zmU{b:EC}:K C b Φ .normal fr h↔WPk C b fr h Φ:=Iff.rfl
theorem K_ret{b:EC}:K C b Φ .ret fr h↔Φ .ret fr h:=Iff.rfl
theorem zsy{b:EC}{id:Nat}:K C b Φ (.exit id) fr h↔Φ (.exit id) fr h:=Iff.rfl
theorem zlf{id:Nat}:KB id Φ .normal fr h↔Φ .normal fr h:=Iff.rfl
theorem zsu{id:Nat}:KB id Φ .ret fr h↔Φ .ret fr h:=Iff.rfl
theorem zfx{id id':Nat}:KB id Φ (.exit id') fr h↔if id'=id then Φ .normal fr h else Φ (.exit id') fr h:=Iff.rfl
theorem zlg{R:Fr→LH→Prop}{keep:List Nat}:KL R keep Φ .normal fr h↔R (zl keep fr) h:=Iff.rfl
theorem zsv{R:Fr→LH→Prop}{keep:List Nat}:KL R keep Φ .ret fr h↔Φ .ret fr h:=Iff.rfl
theorem zpO{R:Fr→LH→Prop}{keep:List Nat}{id:Nat}:KL R keep Φ (.exit id) fr h↔Φ (.exit id) fr h:=Iff.rfl
theorem ziF:WPk C .skip fr h Φ↔Φ .normal fr h:=⟨fun⟨_,_,_,e,r⟩=>by cases e;exact r,fun r=>⟨_,_,_,rfl,r⟩⟩
theorem zrz{a b:EC}:WPk C (.seq a b) fr h Φ↔WPk C a fr h (K C b Φ):=by
 refine⟨fun w=> ?_,wp_seq⟩;obtain⟨x,fr',h',e,r⟩:=w;simp only[zC] at e;split at e
 ·rename_i fr1 h1 e1;exact⟨_,_,_,e1,x,fr',h',e,r⟩
 ·rename_i hne;refine⟨_,_,_,e,?_⟩;cases x with
  |normal=>exact absurd e (hne _ _)
  |exit id=>exact r
  |goto l=>exact r
  |ret=>exact r
theorem ziB{c:OD}{a b:EC}{t:Bool}(ht:odS fr c=some (.bool t)):WPk C (.cond c a b) fr h Φ↔if t then WPk C a fr h Φ else WPk C b fr h Φ:=by unfold WPk;simp only[zC,ht];cases t<;>simp
theorem zfw{id:Nat}{b:EC}:WPk C (.block id b) fr h Φ↔WPk C b fr h (KB id Φ):=by
 constructor
 ·rintro⟨x,fr',h',e,r⟩;simp only[zC] at e;split at e
  ·rename_i id' fr1 h1 e1;refine⟨_,_,_,e1,?_⟩;rw[zfx];split at e
   ·rename_i hid;simp only[zuE,zuH] at e;obtain⟨rfl,rfl,rfl⟩:=e;rw[zuO hid];exact r
   ·rename_i hid;simp only[zuE,zuH] at e;obtain⟨rfl,rfl,rfl⟩:=e;rw[zuQ hid];exact r
  ·rename_i hne;refine⟨_,_,_,e,?_⟩;cases x with
   |normal=>exact r
   |exit id'=>exact absurd e (hne _ _ _)
   |goto l=>exact r
   |ret=>exact r
 ·rintro⟨x,fr',h',e,r⟩;cases x with
  |exit id'=>
   rw[zfx] at r;by_cases hid:id'=id
   ·rw[zuO hid] at r;exact⟨_,_,_,by simp only[zC,e,zuO hid],r⟩
   ·rw[zuQ hid] at r;exact⟨_,_,_,by simp only[zC,e,zuQ hid],r⟩
  |normal=>exact⟨_,_,_,by simp only[zC,e],r⟩
  |goto l=>exact⟨_,_,_,by simp only[zC,e],r⟩
  |ret=>exact⟨_,_,_,by simp only[zC,e],r⟩
theorem ziC{id:Nat}{keep:List Nat}:WPk C (.exit id keep) fr h Φ↔Φ (.exit id) (zl keep fr) h:=⟨fun⟨_,_,_,e,r⟩=>by cases e;exact r,fun r=>⟨_,_,_,rfl,r⟩⟩
theorem zk7{keep:List Nat}:WPk C (.ret keep) fr h Φ↔Φ .ret (zl keep fr) h:=⟨fun⟨_,_,_,e,r⟩=>by cases e;exact r,fun r=>⟨_,_,_,rfl,r⟩⟩
theorem ziE{keep:List Nat}{b:EC}:WPk C (.loop keep b) fr h Φ↔WPl C b keep (zl keep fr) h Φ:=Iff.rfl
theorem zk6{l:List EG}{keep:List Nat}:WPk C (.ops l keep) fr h Φ↔WPo C l fr h (fun fr' h'=>Φ .normal (zl keep fr') h'):=by
 constructor
 ·rintro⟨x,fr',h',e,r⟩;simp only[zC] at e;obtain⟨⟨f1,h1⟩,e1,e2⟩:=zuI.1 e;simp only[zuH] at e2;obtain⟨rfl,rfl,rfl⟩:=e2;exact⟨f1,h1,e1,r⟩
 ·rintro⟨fr',h',e,r⟩;exact⟨_,_,_,by simp only[zC,e,zvb],r⟩
theorem zk8{Φ:Fr→LH→Prop}:WPo C [] fr h Φ↔Φ fr h:=⟨fun⟨_,_,e,r⟩=>by cases e;exact r,fun r=>⟨_,_,rfl,r⟩⟩
theorem zo3{g:EG}{l:List EG}{Φ:Fr→LH→Prop}(hw:jt fr g.guard=some true):WPo C (g::l) fr h Φ↔WPs C g.op fr h (fun v h'=>WPo C l (qx fr g.dst (some v)) h' Φ):=by
 unfold WPo WPs;simp only[jY,hw];constructor
 ·rintro⟨fr',h',e,r⟩;split at e
  ·rename_i v h1 e1;exact⟨v,h1,e1,fr',h',e,r⟩
  ·cases e
 ·rintro⟨v,h1,e1,fr',h',e,r⟩;exact⟨fr',h',by rw[e1];exact e,r⟩
theorem zk9{g:EG}{l:List EG}{Φ:Fr→LH→Prop}(hw:jt fr g.guard=some false):WPo C (g::l) fr h Φ↔WPo C l (qx fr g.dst (some (.tup []))) h Φ:=by unfold WPo;simp only[jY,hw]
theorem zo4{f:Nat}{l:List OD}{args:List FV}{Φ:FV→LH→Prop}(ha:odL fr l=some args):WPs C (.call f l) fr h Φ↔WPc C f args h Φ:=by unfold WPs WPc;simp[zK,jA,jU,ha]
theorem zo5{o:EO}{v:FV}{h':LH}{Φ:FV→LH→Prop}(hc:jA o=false)(he:opE fr h o=some (v,h')):WPs C o fr h Φ↔Φ v h':=by unfold WPs;simp only[zK,hc,zva,if_false,he];exact⟨fun⟨_,_,e,r⟩=>by cases e;exact r,fun r=>⟨_,_,rfl,r⟩⟩
theorem JN{f:Nat}{args:List FV}{v:FV}{h':LH}(w:WPc C f args h (fun v' h''=>v'=v∧h''=h')):zy C f args h=some (v,h'):=by obtain⟨v1,h1,e,rfl,rfl⟩:=w;exact e
theorem WPl.inv{b:EC}{keep:List Nat}(I:Nat→Fr→LH→Prop)(hs:∀n fr h,I n fr h→zl keep fr=fr∧WPk C b fr h (KL (fun fr' h'=>∃m,m<n∧I m fr' h') keep Φ)):∀n fr h,I n fr h→WPl C b keep fr h Φ:=by
 intro n
 induction n using Nat.strongRecOn with
 |_ n ih=>
  intro fr h hi;obtain⟨hk,x,fr',h',e,r⟩:=hs n fr h hi;cases x with
  |normal=>
   obtain⟨m,hm,im⟩:=r;obtain⟨x2,fr2,h2,e2,r2⟩:=ih m hm _ _ im;exact⟨x2,fr2,h2,zdK hk e e2,r2⟩
  |exit id=>exact⟨_,_,_,q8 hk e (by simp),r⟩
  |goto l=>exact⟨_,_,_,q8 hk e (by simp),r⟩
  |ret=>exact⟨_,_,_,q8 hk e (by simp),r⟩
end
theorem WPc.post{C:Nat→Option EF}{f:Nat}{args:List FV}{h:LH}{Φ:FV→LH→Prop}(hs:∀Ψ:FV→LH→Prop,(∀v h',Φ v h'→Ψ v h')→WPc C f args h Ψ):WPc C f args h Φ:=hs Φ fun _ _ x=>x
def WPa(C:Nat→Option EF)(c:EC)(l:Nat)(fr:Fr)(h:LH)(Φ:Ex→Fr→LH→Prop):Prop:=∃x fr' h',zX (zy C) c l fr h=some (x,fr',h')∧Φ x fr' h'
def KS(b:EC)(R:Nat→Fr→LH→Prop)(Φ:Ex→Fr→LH→Prop):Ex→Fr→LH→Prop:=fun x fr h=>match x with
 | .goto l=>if Yt b l then R l fr h else Φ (.goto l) fr h
 |x=>Φ x fr h
section
variable {C:Nat→Option EF} {Φ:Ex→Fr→LH→Prop} {fr:Fr} {h:LH}
theorem ziD{l:Nat}{keep:List Nat}:WPk C (.goto l keep) fr h Φ↔Φ (.goto l) (zl keep fr) h:=⟨fun⟨_,_,_,e,r⟩=>by simp only[zC] at e;cases e;exact r,fun r=>⟨_,_,_,by simp only[zC],r⟩⟩
theorem zb0{l:Nat}:WPk C (.label l) fr h Φ↔Φ .normal fr h:=⟨fun⟨_,_,_,e,r⟩=>by simp only[zC] at e;cases e;exact r,fun r=>⟨_,_,_,by simp only[zC],r⟩⟩
theorem zsz{b:EC}{l:Nat}:K C b Φ (.goto l) fr h↔Φ (.goto l) fr h:=Iff.rfl
theorem zpM{id l:Nat}:KB id Φ (.goto l) fr h↔Φ (.goto l) fr h:=Iff.rfl
theorem zpP{R:Fr→LH→Prop}{keep:List Nat}{l:Nat}:KL R keep Φ (.goto l) fr h↔Φ (.goto l) fr h:=Iff.rfl
theorem zfy{b:EC}{R:Nat→Fr→LH→Prop}{l:Nat}:KS b R Φ (.goto l) fr h↔if Yt b l then R l fr h else Φ (.goto l) fr h:=Iff.rfl
theorem zsx{b:EC}{R:Nat→Fr→LH→Prop}:KS b R Φ .ret fr h↔Φ .ret fr h:=Iff.rfl
theorem zlh{b:EC}{R:Nat→Fr→LH→Prop}:KS b R Φ .normal fr h↔Φ .normal fr h:=Iff.rfl
theorem zpS{b:EC}{R:Nat→Fr→LH→Prop}{id:Nat}:KS b R Φ (.exit id) fr h↔Φ (.exit id) fr h:=Iff.rfl
theorem zmB{l:Nat}:WPa C (.label l) l fr h Φ↔Φ .normal fr h:=⟨fun⟨_,_,_,e,r⟩=>by simp[zX] at e;obtain⟨rfl,rfl,rfl⟩:=e;exact r,fun r=>⟨.normal,fr,h,by simp[zX],r⟩⟩
theorem zo1{a b:EC}{l:Nat}(hl:Yt a l=true):WPa C (.seq a b) l fr h Φ↔WPa C a l fr h (K C b Φ):=by
 constructor
 ·rintro⟨x,fr',h',e,r⟩;simp only[zX,hl,if_true] at e;split at e
  ·rename_i fr1 h1 e1;exact⟨_,_,_,e1,x,fr',h',e,r⟩
  ·rename_i hne;refine⟨_,_,_,e,?_⟩;cases x with
   |normal=>exact absurd e (hne _ _)
   |exit id=>exact r
   |goto l=>exact r
   |ret=>exact r
 ·rintro⟨x,fr',h',e,r⟩;cases x with
  |normal=>
   obtain⟨x2,fr2,h2,e2,r2⟩:=r;exact⟨x2,fr2,h2,by simp only[zX,hl,if_true,e];exact e2,r2⟩
  |exit id=>exact⟨_,_,_,by simp only[zX,hl,if_true,e],r⟩
  |goto l=>exact⟨_,_,_,by simp only[zX,hl,if_true,e],r⟩
  |ret=>exact⟨_,_,_,by simp only[zX,hl,if_true,e],r⟩
theorem zo2{a b:EC}{l:Nat}(hl:Yt a l=false):WPa C (.seq a b) l fr h Φ↔WPa C b l fr h Φ:=by unfold WPa;simp only[zX,hl,zva,if_false]
theorem zmn{b:EC}(I:Nat→Nat→Fr→LH→Prop)(hs:∀n l fr h,I n l fr h→WPa C b l fr h (KS b (fun l' fr' h'=>∃m,m<n∧I m l' fr' h') Φ)):
 ∀(n:Nat) (x:Ex) (fr:Fr) (h:LH),KS b (fun l fr h=>∃m,m<n∧I m l fr h) Φ x fr h→∃k x' fr' h',ye (zX (zy C) b) (Yt b) k (some (x,fr,h))=some (x',fr',h')∧Φ x' fr' h':=by
 intro n
 induction n using Nat.strongRecOn with
 |_ n ih=>
  intro x fr h hx;cases x with
  |goto l=>
   rw[zfy] at hx;split at hx
   ·rename_i hl;obtain⟨m,hm,hi⟩:=hx;obtain⟨x1,fr1,h1,e1,r1⟩:=hs m l fr h hi;obtain⟨k,x2,fr2,h2,e2,r2⟩:=ih m hm x1 fr1 h1 r1;refine⟨k+1,x2,fr2,h2,?_,r2⟩;unfold ye;simp only[hl,if_true,e1];exact e2
   ·rename_i hl;refine⟨0,_,_,_,?_,hx⟩;unfold ye;simp only[hl,zva,if_false]
  |normal=>exact⟨0,_,_,_,by unfold ye;rfl,hx⟩
  |exit id=>exact⟨0,_,_,_,by unfold ye;rfl,hx⟩
  |ret=>exact⟨0,_,_,_,by unfold ye;rfl,hx⟩
theorem zmC{b:EC}(I:Nat→Nat→Fr→LH→Prop)(n:Nat)(h0:WPk C b fr h (KS b (fun l fr h=>∃m,m<n∧I m l fr h) Φ))(hs:∀n l fr h,I n l fr h→WPa C b l fr h (KS b (fun l' fr' h'=>∃m,m<n∧I m l' fr' h') Φ)):WPk C (.scope b) fr h Φ:=by obtain⟨x,fr1,h1,e1,r1⟩:=h0;obtain⟨k,x2,fr2,h2,e2,r2⟩:=zmn I hs n x fr1 h1 r1;refine⟨x2,fr2,h2,?_,r2⟩;simp only[zC,e1];refine zgn (fun n r he=>Qk (fun _ _ _ _ h=>h) _ n (n+1) (zw8 n) (x,fr1,h1) r he) (n:=k) e2
end
section
variable {fr:Fr} {keep:List Nat}
theorem qK{x:OD}(hs:∀n∈odT x,n∈keep):odE (zl keep fr) x=odE fr x:=by
 cases x with
 |t n=>exact zah (hs n (by simp[odT]))
 |c v=>rfl
theorem jp{x:OD}(hs:∀n∈odT x,n∈keep):odS (zl keep fr) x=odS fr x:=by unfold odS;rw[qK hs]
theorem Qb:∀{l:List OD},(∀n∈zaZ l,n∈keep)→odL (zl keep fr) l=odL fr l
 |[],_=>rfl
 |x::r,hs=>by simp only[odL];rw[qK (fun n hn=>hs n (by simp[zaZ,hn])),Qb (fun n hn=>hs n (by simp[zaZ,hn]))]
theorem ze5:∀{l:List OD},(∀n∈zaZ l,n∈keep)→zcq (zl keep fr) l=zcq fr l
 |[],_=>rfl
 |x::r,hs=>by simp only[zcq];rw[jp (fun n hn=>hs n (by simp[zaZ,hn])),ze5 (fun n hn=>hs n (by simp[zaZ,hn]))]
theorem zdl:∀{l:List (Nat×Nat×OD)} {cs:List SV},(∀n∈Qf l,n∈keep)→ZK (zl keep fr) cs l=ZK fr cs l
 |[],_,_=>rfl
 |(o,n,x)::r,cs,hs=>by
  simp only[ZK];rw[qK (fun n hn=>hs n (by simp[Qf,hn]))];split
  ·split
   ·split
    ·exact zdl (fun n hn=>hs n (by simp[Qf,hn]))
    ·rfl
   ·rfl
  ·rfl
theorem zcX{d:Nat}{x:Option OD}(hs:∀n∈zh4 x,n∈keep):bound (zl keep fr) d x=bound fr d x:=by
 cases x with
 |none=>rfl
 |some x=>unfold bound;simp only;rw[jp hs]
theorem zfr{call:zU}{h:LH}{o:EO}(hs:∀n∈zQ o,n∈keep):zK call (zl keep fr) h o=zK call fr h o:=by
 have e1:opE (zl keep fr) h o=opE fr h o:=by
  cases o<;>simp only[zQ,zuY] at hs<;>simp only[opE]<;>first
   |rfl
   |(rw[jp (fun n hn=>hs n (by simp[hn]))];done)
   |(rw[qK (fun n hn=>hs n (by simp[hn]))];done)
   |(rw[jp (fun n hn=>hs n (by simp[hn])),jp (fun n hn=>hs n (by simp[hn]))];done)
   |(rw[jp (fun n hn=>hs n (by simp[hn])),qK (fun n hn=>hs n (by simp[hn]))];done)
   |(rw[qK (fun n hn=>hs n (by simp[hn])),qK (fun n hn=>hs n (by simp[hn]))];done)
   |(rw[jp (fun n hn=>hs n (by simp[hn])),qK (fun n hn=>hs n (by simp[hn])),qK (fun n hn=>hs n (by simp[hn]))];done)
   |(rw[zdl hs];done)
   |(rw[jp (fun n hn=>hs n (by simp[hn])),jp (fun n hn=>hs n (by simp[hn])),jp (fun n hn=>hs n (by simp[hn]))];done)
   |(rw[Qb (fun n hn=>hs n (by simp[hn])),Qb (fun n hn=>hs n (by simp[hn]))];done)
   |(rw[jp (fun n hn=>hs n (by simp[hn])),ze5 (fun n hn=>hs n (by simp[hn]))];done)
   |(simp only[jp (fr:=fr) (keep:=keep) (fun n hn=>hs n (.inl (.inl hn))),zcX (fr:=fr) (keep:=keep) (fun n hn=>hs n (.inl (.inr hn))),zcX (fr:=fr) (keep:=keep) (fun n hn=>hs n (.inr hn))];done)
 have e2:jU (zl keep fr) h o=jU fr h o:=by
  cases o<;>simp only[zQ,zuY] at hs<;>simp only[jU]<;>first
   |rfl
   |(rw[Qb hs];done)
   |(rw[jp (fun n hn=>hs n (by simp[hn])),Qb (fun n hn=>hs n (by simp[hn]))];done)
 unfold zK;rw[e1,e2]
theorem zbY{g:EG}:jt (zl (zI g) fr) g.guard=jt fr g.guard:=by
 cases hg:g.guard with
 |none=>rfl
 |some p=>
  obtain⟨s,b⟩:=p;unfold jt;simp only;rw[zah (by simp[zI,hg])]
theorem zaq{call:zU}{h:LH}{g:EG}:zK call (zl (zI g) fr) h g.op=zK call fr h g.op:=by
 refine zfr fun n hn=> ?_;unfold zI;split
 ·exact hn
 ·exact zvD _ hn
end
theorem zbX{call:zU}:∀(l:List EG) (fr:Fr) (h:LH),(je call l fr h).map (·.2)=jY call l fr h
 |[],fr,h=>rfl
 |g::l,fr,h=>by
  simp only[je,jY];rw[zbY,zaq];split
  ·split
   ·rw[Option.map_map,←zbX l];rfl
   ·rfl
  ·rw[Option.map_map,←zbX l];rfl
  ·rfl
theorem zs0{call:zU}{l:List EG}{fr:Fr}{h:LH}:Zs call l [] fr h=jY call l fr h:=by
 rw[←zbX];unfold Zs;cases je call l fr h with
 |none=>rfl
 |some x=>
  obtain⟨tr,fr',h'⟩:=x;simp only;rw[zuO (show yg call tr [] from trivial)];rfl
def KO(keep:List Nat)(Φ:Ex→Fr→LH→Prop):Fr→LH→Prop:=fun fr h=>Φ .normal (zl keep fr) h
def KP(C:Nat→Option EF)(l:List EG)(fr:Fr)(d:Option Nat)(Φ:Fr→LH→Prop):FV→LH→Prop:=fun v h=>WPo C l (qx fr d (some v)) h Φ
def mt(r:Option (FV×LH))(Φ:FV→LH→Prop):Prop:=match r with
 |some (v,h)=>Φ v h
 |none=>False
def mtk(r:Option (FV×LH))(h:LH)(Φ:FV→LH→Prop):Prop:=match r with
 |some (v,_)=>Φ v h
 |none=>False
section
variable {C:Nat→Option EF} {Φ:Ex→Fr→LH→Prop} {fr:Fr} {h:LH}
theorem zkF{v:FV}{Φ:FV→LH→Prop}:mt (some (v,h)) Φ↔Φ v h:=Iff.rfl
theorem zob{v:FV}{h':LH}{Φ:FV→LH→Prop}:mtk (some (v,h')) h Φ↔Φ v h:=Iff.rfl
theorem KO_eq{keep:List Nat}:KO keep Φ fr h↔Φ .normal (zl keep fr) h:=Iff.rfl
theorem KP_eq{l:List EG}{d:Option Nat}{Φ:Fr→LH→Prop}{v:FV}:KP C l fr d Φ v h↔WPo C l (qx fr d (some v)) h Φ:=Iff.rfl
theorem zsj{l:List EG}{keep:List Nat}:WPk C (.ops l keep) fr h Φ↔WPo C l fr h (KO keep Φ):=zk6
theorem ztl{g:EG}{l:List EG}{Φ:Fr→LH→Prop}:WPo C (g::l) fr h Φ↔match jt fr g.guard with
 |some true=>WPs C g.op fr h (KP C l fr g.dst Φ)
 |some false=>WPo C l (qx fr g.dst (some (.tup []))) h Φ
 |none=>False:=by
 split
 ·rename_i hw;exact zo3 hw
 ·rename_i hw;exact zk9 hw
 ·rename_i hw;refine⟨fun w=> ?_,False.elim⟩;obtain⟨fr',h',e,_⟩:=w;simp only[jY,hw] at e;cases e
theorem ztm{o:EO}{Φ:FV→LH→Prop}:WPs C o fr h Φ↔mt (zK (zy C) fr h o) Φ:=by
 unfold WPs mt;constructor
 ·rintro⟨v,h',e,r⟩;rw[e];exact r
 ·intro w;split at w
  ·rename_i v h' e;exact⟨v,h',e,w⟩
  ·exact w.elim
theorem ztk{c:OD}{a b:EC}:WPk C (.cond c a b) fr h Φ↔match odS fr c with
 |some (.bool t)=>if t then WPk C a fr h Φ else WPk C b fr h Φ
 |_=>False:=by
 split
 ·rename_i t ht;rw[ziB ht]
 ·rename_i hne;refine⟨fun w=> ?_,False.elim⟩;obtain⟨x,fr',h',e,_⟩:=w;unfold zC at e;split at e
  ·rename_i t ht;exact hne t ht
  ·cases e
theorem zkw{l:List EG}{keep:List Nat}:WPk C (.draw l [] keep) fr h Φ↔WPo C l fr h (KO keep Φ):=by rw[←zsj];unfold WPk;simp only[zC];rw[zs0]
def WT(C:Nat→Option EF):List EG→Fr→LH→List (Option TE)→(List (Option TE)→Fr→LH→Prop)→Prop
 |[],fr,h,tr,Φ=>Φ tr fr h
 |g::l,fr,h,tr,Φ=>
  match jt fr g.guard with
  |some true=>mt (zK (zy C) fr h g.op) (fun v h'=>WT C l (qx fr g.dst (some v)) h' (tr++[some ⟨zl (zI g) fr,h,g.op,v,h'⟩]) Φ)
  |some false=>WT C l (qx fr g.dst (some (.tup []))) h (tr++[none]) Φ
  |none=>False
def KT(C:Nat→Option EF)(l:List EG)(fr:Fr)(h:LH)(g:EG)(tr:List (Option TE))(Φ:List (Option TE)→Fr→LH→Prop):FV→LH→Prop:=fun v h'=>WT C l (qx fr g.dst (some v)) h' (tr++[some ⟨zl (zI g) fr,h,g.op,v,h'⟩]) Φ
def KD(C:Nat→Option EF)(ps:List (Nat×Nat))(keep:List Nat)(Φ:Ex→Fr→LH→Prop):List (Option TE)→Fr→LH→Prop:=fun tr fr h=>yg (zy C) tr ps∧Φ .normal (zl keep fr) h
theorem zoT{tr:List (Option TE)}{Φ:List (Option TE)→Fr→LH→Prop}:WT C [] fr h tr Φ↔Φ tr fr h:=Iff.rfl
theorem Qo{g:EG}{l:List EG}{tr:List (Option TE)}{Φ:List (Option TE)→Fr→LH→Prop}:WT C (g::l) fr h tr Φ↔match jt fr g.guard with
 |some true=>mt (zK (zy C) fr h g.op) (KT C l fr h g tr Φ)
 |some false=>WT C l (qx fr g.dst (some (.tup []))) h (tr++[none]) Φ
 |none=>False:=Iff.rfl
theorem zcO{l:List EG}{g:EG}{h':LH}{tr:List (Option TE)}{Φ:List (Option TE)→Fr→LH→Prop}{v:FV}:KT C l fr h g tr Φ v h'↔WT C l (qx fr g.dst (some v)) h' (tr++[some ⟨zl (zI g) fr,h,g.op,v,h'⟩]) Φ:=Iff.rfl
theorem KD_eq{ps:List (Nat×Nat)}{keep:List Nat}{tr:List (Option TE)}:KD C ps keep Φ tr fr h↔yg (zy C) tr ps∧Φ .normal (zl keep fr) h:=Iff.rfl
theorem WT.trace:∀{l:List EG} {fr:Fr} {h:LH} {tr:List (Option TE)} {Φ:List (Option TE)→Fr→LH→Prop},WT C l fr h tr Φ→∃tr1 fr' h',je (zy C) l fr h=some (tr1,fr',h')∧Φ (tr++tr1) fr' h'
 |[],fr,h,tr,Φ,w=>⟨[],fr,h,rfl,by rw[zvl];exact w⟩
 |g::l,fr,h,tr,Φ,w=>by
  unfold WT at w;split at w
  ·rename_i hw;unfold mt at w;split at w
   ·rename_i v h1 e1;obtain⟨tr1,fr',h',e2,e4⟩:=WT.trace w;refine⟨some ⟨zl (zI g) fr,h,g.op,v,h1⟩::tr1,fr',h',?_,by rw[zvc] at e4;exact e4⟩;simp only[je];rw[zbY,hw];simp only;rw[zaq,e1];simp only[e2,zvb]
   ·exact w.elim
  ·rename_i hw;obtain⟨tr1,fr',h',e2,e4⟩:=WT.trace w;refine⟨none::tr1,fr',h',?_,by rw[zvc] at e4;exact e4⟩;simp only[je];rw[zbY,hw];simp only[e2,zvb]
  ·exact w.elim
theorem J3{l:List EG}{ps:List (Nat×Nat)}{keep:List Nat}(w:WT C l fr h [] (KD C ps keep Φ)):WPk C (.draw l ps keep) fr h Φ:=by obtain⟨tr1,fr',h',e2,e4,e5⟩:=w.trace;refine⟨_,_,_,?_,e5⟩;rw[zwj] at e4;simp only[zC,Zs,e2];rw[zuO e4];rfl
theorem KR_i{res:List ER}{Φ:FV→LH→Prop}(w:mtk (qR (jO fr h res) h) h Φ):KR res Φ .ret fr h:=by
 unfold mtk at w;split at w
 ·rename_i v h' e1;refine⟨.inr rfl,v,?_,w⟩;unfold qR at e1⊢;split at e1
  ·split at e1
   ·simp only[zuE,zuH] at e1;rename_i hf;rw[zuO hf,e1.1]
   ·cases e1
  ·cases e1
 ·exact w.elim
theorem zsk{res:List ER}{Φ:FV→LH→Prop}:KR res Φ .ret fr h↔mtk (qR (jO fr h res) h) h Φ:=by refine⟨?_,KR_i⟩;rintro⟨_,v,e1,r⟩;rw[e1];exact r
theorem znQ{res:List ER}{Φ:FV→LH→Prop}:KR res Φ .normal fr h↔mtk (qR (jO fr h res) h) h Φ:=by rw[←zsk];simp[KR]
end
end Go.Proofs.YtdmcfjkgopmlgaaGreatDoor.Ev
namespace Go.Proofs.YtdmcfjkgopmlgaaGreatDoor.Ev
open Go Go.RowKit
section
variable {P:Program} {w0:Base}
section
variable {ρ:Nat→Ph} {h:LH} {w:World} {N:Nat} {fr:Fr} {a:Act}
theorem Rel.setFree(R:Rel P w0 ρ h w){r:Nat}(hB:w0.B≤r)(hF:¬w0.F r)(hfree:∀i o,h[i]? =some o→o.holds=true→(ρ i).blk≠r)(o:Obj):Rel P w0 ρ h {w with heap:=w.heap.setIfInBounds r o}:=by
 have hheap:∀k,k≠r→({w with heap:=w.heap.setIfInBounds r o}:World).heap[k]? =w.heap[k]? :=fun k hk=>by simp only;rw[zwy (fun e=>hk e.symm)]
 have hcell:∀(x:Addr),x.block≠r→({w with heap:=w.heap.setIfInBounds r o}:World).cell? x=w.cell? x:=fun x hx=>by unfold World.cell?;rw[hheap _ hx]
 have hfr:∀(x:Addr),x.block≠r→({w with heap:=w.heap.setIfInBounds r o}:World).frozen? x=w.frozen? x:=fun x hx=>by unfold World.frozen?;rw[hheap _ hx]
 refine⟨R.below.tr (zeD hB o) (fun _=>zuL _),R.hB,fun k hk=> ?_,R.out,fun i o' hi=> ?_,R.inj⟩
 ·obtain⟨k1,k2⟩:=R.keep k hk;exact⟨k1,by rw[hheap k (fun e=>hF (by rw[←e];exact hk))];exact k2⟩
 ·have hne:(o'.holds=true∨(ρ i).blk<w0.B)→(ρ i).blk≠r:=by
   rintro(hk|hk)
   ·exact hfree i o' hi hk
   ·omega
  exact(R.obj i o' hi).moved (Ext.refl _ _) (zuL _) (by simp) (fun hk j v hv=>by rw[hcell _ (hne hk)];exact hv) (fun hk j=>hfr _ (hne (.inl hk))) (fun hk=>hheap _ (hne (.inl (by cases o'<;>first|rfl|cases hk))))
theorem Rel.allocFree(R:Rel P w0 ρ h w)(o:Obj):Rel P w0 ρ h (w.alloc o):=by
 have hheap:∀k,k<w.heap.size→(w.alloc o).heap[k]? =w.heap[k]? :=fun k hk=>Below.heap_alloc _ _ _ hk;have hcell:∀(x:Addr),x.block<w.heap.size→(w.alloc o).cell? x=w.cell? x:=fun x hx=>by unfold World.cell?;rw[hheap _ hx]
 have hfr:∀(x:Addr),x.block<w.heap.size→(w.alloc o).frozen? x=w.frozen? x:=fun x hx=>by unfold World.frozen?;rw[hheap _ hx]
 refine⟨R.below.alloc R.size _,R.hB,fun k hk=> ?_,R.out,fun i o' hi=> ?_,R.inj⟩
 ·obtain⟨k1,k2⟩:=R.keep k hk;exact⟨k1,by rw[hheap k (zvB k1 R.below.size)];exact k2⟩
 ·have hlt:(o'.holds=true∨(ρ i).blk<w0.B)→(ρ i).blk<w.heap.size:=by
   rintro(hk|hk)
   ·have:=R.obj i o' hi;cases o'<;>simp[LO.holds] at hk<;>exact this.2.1
   ·have:=R.size;omega
  exact(R.obj i o' hi).moved (Ext.refl _ _) (zuL _) (by show _≤(w.heap.push _).size;rw[zwQ];omega) (fun hk j v hv=>by rw[hcell _ (hlt hk)];exact hv) (fun hk j=>hfr _ (hlt (.inl hk))) (fun hk=>hheap _ (hlt (.inl (by cases o'<;>first|rfl|cases hk))))
theorem Rel.forget{ρ':Nat→Ph}{h':LH}{w1:World}(R:Rel P w0 ρ h w)(R':Rel P w0 ρ' h' w1)(hE:Ext h.length ρ ρ')(hl:h.length≤h'.length)(hs:∀i,i<h.length→h'[i]? =h[i]?):Rel P w0 ρ' h w1:=by refine⟨R'.below,R'.hB,R'.keep,fun i o hi hh=>R'.out i o (by rw[hs i (yI hi)];exact hi) hh,fun i o hi=> ?_,fun i j o o' hi hj hne k1 k2=>R'.inj i j o o' (by rw[hs i (yI hi)];exact hi) (by rw[hs j (yI hj)];exact hj) hne k1 k2⟩;have h1:=R'.obj i o (by rw[hs i (yI hi)];exact hi);exact h1.re (R.obj i o hi).nm (zhX (fun _=>rfl) o) (zuL _) (fun _ _ _ hv=>hv) (fun _ _=>rfl) (fun _=>rfl)
theorem zcl{r:Nat}{m:Option Nat}{s l:Nat}{seen:Array Nat}(hb:w.heap[r]? =some (.mapIter m s seen l)):(getObj r).run P w= .ok (.mapIter m s seen l) w:=by simp[getObj,Sem.run,hb]
theorem ziq{r:Nat}{m:Option Nat}{s l:Nat}{seen:Array Nat}(o:Obj)(hb:w.heap[r]? =some (.mapIter m s seen l)):(setObj r o).run P w= .ok () {w with heap:=w.heap.setIfInBounds r o}:=by simp[setObj,Sem.run,hb]
theorem zgK{r bm:Nat}{seen:Array Nat}{ms:Array MapEntry}{ty:TypeId}(hr:w.heap[r]? =some (.mapIter (some bm) ms.size seen ms.size))(hb:w.heap[bm]? =some (.map ms ms.size))(hborn:ms.toList.map (·.born)=List.range ms.size):
 ((∀j,j<ms.size→j∈seen.toList)∧(Instr.next (.pointer (some ⟨r,0,none⟩)) false ty).run P w= .ok (.tuple #[.bool false]) w)∨
 ∃j e k,ms[j]? =some e∧j∉seen.toList∧(Instr.next (.pointer (some ⟨r,0,none⟩)) false ty).run P w= .ok (.tuple #[.bool true,e.key,e.val]) {w.drewN k with heap:=w.heap.setIfInBounds r (.mapIter (some bm) ms.size (seen.push j) ms.size)}:=by
 have hlt:∀x∈ms.toList,x.born<ms.size:=fun x hx=>by
  have:x.born∈List.range ms.size:=by rw[←hborn];exact zvV.2 ⟨x,hx,rfl⟩
  exact zwl.1 this
 have hat:∀(j:Nat) (e:MapEntry),ms[j]? =some e→e.born=j:=fun j e he=>by
  have h1:(ms.toList.map (·.born))[j]? =some e.born:=by rw[zvC];simp[he]
  have hj:=(zwb.1 he).1;rw[hborn,List.getElem?_range hj] at h1;exact(zuG h1).symm
 simp only[Instr.next,zu5,zcl hr,MapKept.run_getObj_map hb,Result.andThen,next_test_false seen ms ms.size ms.size hlt (zuL _),zva,if_false];have hsub:∀x∈(Array.filter (fun e=> !seen.contains e.born) ms).toList,x∈ms.toList∧x.born∉seen.toList:=fun x hx=>by simp only[Array.toList_filter,zvx] at hx;refine⟨hx.1,fun hc=> ?_⟩;have:=hx.2;simp at this;exact this (by simpa using hc)
 have hall:(Array.filter (fun e=> !seen.contains e.born) ms).size=0→∀j,j<ms.size→j∈seen.toList:=fun h0 j hj=>by
  apply Classical.byContradiction;intro hn;have hm:ms[j]∈(Array.filter (fun e=> !seen.contains e.born) ms).toList:=by simp only[Array.toList_filter,zvx];refine⟨by simp,?_⟩;rw[hat j ms[j] (zvy hj)];simpa using hn
  have:(Array.filter (fun e=> !seen.contains e.born) ms).toList=[]:=by apply zvU;simpa using h0
  rw[this] at hm;cases hm
 generalize Array.filter (fun e=> !seen.contains e.born) ms=L at hsub hall⊢;have e1:L.filter (fun x=>decide (x.born<ms.size))=L:=Array.filter_eq_self.2 (fun x hx=>by simpa using hlt x (hsub x (by simpa using hx)).1);have e2:L.filter (fun x=>decide (x.born≥ms.size))= #[]:=by rw[Array.filter_eq_empty_iff];intro x hx;have:=hlt x (hsub x (by simpa using hx)).1;simp;omega
 simp only[e1,e2,Array.append_empty];by_cases h0:L.size=0
 ·left;refine⟨hall h0,?_⟩;have:L= #[]:=zwo h0;subst this;simp[choose,Sem.run,Question.forced]
 ·right;have hne:L.isEmpty=false:=by simp[Array.isEmpty,h0]
  simp only[hne,zva,if_false,Array.empty_append,Array.size_map];have hch:∃(j k:Nat),j<L.size∧(choose (Question.mapNext L.size)).run P w= .ok j (w.drewN k):=by
   by_cases hf:L.size≤1
   ·exact⟨0,0,by omega,by simp[choose,Sem.run,Question.forced,hf,World.drewN]⟩
   ·exact⟨_,1,Nat.mod_lt _ (by omega),by
     simp only[choose,Sem.run,Question.forced,zuW,hf,if_false,Question.cut];rfl⟩
  obtain⟨q,k,hq,hrun⟩:=hch;obtain⟨s1,s2⟩:=hsub L[q] (by simp);obtain⟨j,hj⟩:=zwO.1 s1;have hj':ms[j]? =some L[q]:=by simpa using hj
  have hbj:=hat j _ hj';refine⟨j,L[q],k,hj',by rw[←hbj];exact s2,?_⟩;have hr':(w.drewN k).heap[r]? =some (.mapIter (some bm) ms.size seen ms.size):=hr;simp only[hrun,Array.getElem?_map,zvy hq,zvb,zu5,ziq _ hr',Result.andThen,zvg,hbj];rfl
theorem zew{r bm j:Nat}{seen:Array Nat}{ms:Array MapEntry}{e:MapEntry}(hr:w.heap[r]? =some (.mapIter (some bm) ms.size (seen.push j) ms.size))(hb:w.heap[bm]? =some (.map ms ms.size))(hborn:ms.toList.map (·.born)=List.range ms.size)(hj:ms[j]? =some e):
 (Instr.entry (.pointer (some ⟨r,0,none⟩))).run P w= .ok (.tuple #[e.key,e.val]) w:=by
 have hn:(ms.toList.map (·.born)).Nodup:=by rw[hborn];exact List.nodup_range
 have he:e∈ms.toList:=zvE (by simpa using hj);have hbj:e.born=j:=by
  have h1:(ms.toList.map (·.born))[j]? =some e.born:=by rw[zvC];simp[hj]
  rw[hborn,List.getElem?_range (zwb.1 hj).1] at h1;exact(zuG h1).symm
 have hf:ms.find? (·.born==j)=some e:=by rw[←hbj,←Array.find?_toList];exact find_born e ms.toList hn he
 simp only[Instr.entry,zu5,zcl hr,MapKept.run_getObj_map hb,Result.andThen,Array.back?_push,bne_self_eq_false,zva,if_false,hf];rfl
end
end
section
variable {P:Program} {w0:Base}
def zlu(sz:Nat)(seen:List Nat):Nat:=((List.range sz).filter fun j=> !seen.contains j).length
theorem zqa{sz j:Nat}{seen:List Nat}(hj:j<sz)(hn:j∉seen):zlu sz (seen++[j])<zlu sz seen:=by unfold zlu;refine Go.filter_lt (fun j=> !seen.contains j) (fun k=> !(seen++[j]).contains k) (fun x hx=> ?_) j (by simpa using hn) (by simp) _ (zwl.2 hj);simp only[List.contains_append,Bool.not_or,zuP] at hx;exact hx.1
structure MapLoop(P:Program)(N:Nat)(call:zU)(n:Nat)(es:List (SV×SV))(good:SV×SV→Bool)(h:LH)(fr frB frR:Fr)(K:List Nat)(it tc d1 d2:Nat)(ops1 ops2:Array Oper)(rest:Code) where
 o1:Oper
 o2:Oper
 l1:List Oper
 l2:List Oper
 g1:List EG
 g2:List EG
 hs:List (List Nat)
 er:EC
 hs':List (List Nat)
 frA:SV→SV→Fr
 frC:SV→SV→Fr
 e1:ops1.toList=o1::l1
 e2:ops2.toList=o2::l2
 p1:o1.op= .next (.tmp it) false
 p2:o2.op= .entry (.tmp it)
 q1:o1.dst=some d1
 q2:o2.dst=some d2
 r1:o1.guard=none
 r2:o2.guard=none
 k1:d1<N
 k2:d2<N
 c1:Zh P N ops1 l1=some g1
 c2:Zh P N ops2 l2=some g2
 c3:yu P N rest hs=some (er,hs')
 h1t:∀k v h',jY call g1 (qx fr (some d1) (some (.tup [.s (.bool true),.s k,.s v]))) h'=some (frA k v,h')∧yq (frA k v) tc=some (.s (.bool true))
 h1f:∀h',jY call g1 (qx fr (some d1) (some (.tup [.s (.bool false)]))) h'=some (frB,h')∧yq frB tc=some (.s (.bool false))
 h2i:∀k v,yq (frA k v) it=yq fr it
 h2:∀k v h',jY call g2 (qx (frA k v) (some d2) (some (.tup [.s k,.s v]))) h'=some (frC k v,h')
 h3:∀x∈es,∀h',Gr h h'→∃ex fr2 h2,zp call n er (frC x.1 x.2) h'=some (ex,fr2,h2)∧Gr h' h2∧((good x=true∧ex= .normal∧zl K fr2=fr)∨(good x=false∧ex= .ret∧fr2=frR))
theorem zdO{G:Base→Prop}(hG:JG P G)(hg:G w0)(hm:P.follows .mixedOrders=true){call:zU}(hcall:∀w0,G w0→ZE P w0 call)(hgrow:YA call){n N:Nat}{es:List (SV×SV)}{good:SV×SV→Bool}{h:LH}{fr frB frR:Fr}{K:List Nat}{it tc d1 d2:Nat}{ops1 ops2:Array Oper}{rest:Code}
 (L:MapLoop P N call n es good h fr frB frR K it tc d1 d2 ops1 ops2 rest) {i1 i2 b0 b1 ii im r:Nat} (hii:yq fr it=some (.s (.ptr ii 0))) (hil:ii<h.length) (him:h[im]? =some (.map es)) (hrB:w0.B≤r) (hrF:¬w0.F r) {ρ0:Nat→Ph} {Q:Exit→Act→World→Prop}
 (hQ1:(∀x∈es,good x=true)→∀ρ' h'' a' w',Rel P w0 ρ' h'' w'→Gr h h''→Ext h.length ρ0 ρ'→FrR ρ' h''.length N frB a'→Q (.exit b0) a' w')
 (hQ2:(∃x∈es,good x=false)→∀ρ' h'' a' w',Rel P w0 ρ' h'' w'→Gr h h''→Ext h.length ρ0 ρ'→FrR ρ' h''.length N frR a'→Q .ret a' w'):
 ∀(k:Nat) (seen:Array Nat) (ρ:Nat→Ph) (h':LH) (a:Act) (w:World),zlu es.length seen.toList<k→Rel P w0 ρ h' w→Gr h h'→Ext h.length ρ0 ρ→FrR ρ h'.length N fr a→(ρ ii).blk=r→(ρ ii).base=0→
  w.heap[r]? =some (.mapIter (some (ρ im).blk) es.length seen es.length)→(∀j∈seen.toList,∀x,es[j]? =some x→good x=true)→(∀i o,h'[i]? =some o→o.holds=true→(ρ i).blk≠r)→
  Code.rounds P (.seq (.region i1 ops1 false) (.seq (.cond (.tmp tc) .skip (.exit b0)) (.block b1 (.seq (.region i2 ops2 false) rest)))) Q k a w:=by
 intro k
 induction k with
 |zero=>intro seen ρ h' a w hk;omega
 |succ k ih=>
  intro seen ρ h' a w hk R gr hE hF hblk hbase hit hseen hfree;rw[rounds_succ];have hil':ii<h'.length:=zvB hil gr.le;have him':=gr.get him;have himl:im<h'.length:=yI him';obtain⟨m1,m2,⟨ms,m3,m4,m5⟩,m6⟩:=R.obj im _ him';have hsz:ms.size=es.length:=by have:=congrArg List.length m4;simpa using this
  have hit':w.heap[r]? =some (.mapIter (some (ρ im).blk) ms.size seen ms.size):=by rw[hsz];exact hit
  have hptr:a.eval (.tmp it)= .pointer (some ⟨r,0,none⟩):=by obtain⟨_,q,_⟩:=hF.get it _ hii;show a.tmps.getD it undef=_;rw[q];simp[cv,c0,hblk,hbase]
  have hw1:∀y,Region.wanted L.o1 y=true:=fun y=>by unfold Region.wanted;rw[L.r1]
  have hw2:∀y,Region.wanted L.o2 y=true:=fun y=>by unfold Region.wanted;rw[L.r2]
  rcases zgK (P:=P) (ty:=L.o1.type) hit' m3 m5 with⟨hall,hrun⟩|⟨j,e,kk,hj,hns,hrun⟩
  ·--nothing is left
   refine _root_.Go.wp_seq (wp_region_list ?_);rw[L.e1];unfold wpList;rw[hw1,zuO rfl];refine .inl ?_;unfold Oper.wp;have hex:(execOp a.eval L.o1).run P w= .ok (.value (.tuple #[.bool false])) w:=by unfold execOp;rw[L.p1];simp only;rw[hptr];exact qT hrun
   rw[hex,Oper.upon_value,L.q1];obtain⟨f1,f2⟩:=L.h1f h';refine zbP (hcall w0 hg) L.l1 L.g1 _ h' _ _ ρ _ w L.c1 f1 R (hF.put (v:= .tup [.s (.bool false)]) (d:=some d1) (fun t ht=>by cases ht;exact L.k1) (fun v hv=>by
    simp only[zuX,zvS,or_false] at hv;subst hv;trivial)) (fun ρ1 a1 w1 s1 s2 s3 s4=> ?_)
   refine _root_.Go.wp_seq (wp_cond (t:=false) ?_ ?_)
   ·obtain⟨_,q,_⟩:=s2.get tc _ f2;show a1.tmps.getD tc undef=_;rw[q];rfl
   ·simp only[zva,if_false];refine wp_exit ?_;refine hQ1 (fun x hx=> ?_) ρ1 h' a1 w1 s1 gr (hE.trans gr.le s3) s2;obtain⟨j,hj⟩:=zwO.1 hx;exact hseen j (hall j (by rw[hsz];exact(zuJ.1 hj).1)) x hj
  ·--an entry
   have hjs:j<es.length:=by rw[←hsz];exact(zwb.1 hj).1
   obtain⟨x,hx⟩:∃x,es[j]? =some x:=⟨_,zuV hjs⟩
   have hxm:=zvE hx;have hent:e.key=c0 ρ x.1∧e.val=c0 ρ x.2:=by
    have h1:(ms.toList.map fun e=>(e.key,e.val))[j]? =some (e.key,e.val):=by rw[zvC];simp[hj]
    rw[m4,zvC,hx] at h1;simp only[zvb,zuE,zuH] at h1;exact⟨h1.1.symm,h1.2.symm⟩
   have nl1:=zhu (m6 x hxm).1;have nl2:=(m6 x hxm).2;have R1:=(R.drewN kk).setFree hrB hrF hfree (.mapIter (some (ρ im).blk) ms.size (seen.push j) ms.size)
   --the base that keeps the iterator's block
   have hrl:r<w.heap.size:=(zwb.1 hit).1;have hFk:∀k,(w0.F k∨k=r)→k<({w.drewN kk with heap:=w.heap.setIfInBounds r (.mapIter (some (ρ im).blk) ms.size (seen.push j) ms.size)}:World).heap.size:=by
    intro k hk;simp only[Array.size_setIfInBounds];rcases hk with hk|rfl
    ·exact zvB (R.keep k hk).1 R.below.size
    ·exact hrl
   have R2:=R1.rebase (fun k=>w0.F k∨k=r) hFk (fun i o hi hh hk=>hk.elim (R1.out i o hi hh) (hfree i o hi hh));have hg2:=hG w0 ρ h' _ (fun k=>w0.F k∨k=r) R1 hg;refine _root_.Go.wp_seq (wp_region_list ?_);rw[L.e1];unfold wpList;rw[hw1,zuO rfl];refine .inl ?_;unfold Oper.wp;have hex:(execOp a.eval L.o1).run P w= .ok (.value (.tuple #[.bool true,e.key,e.val])) {w.drewN kk with heap:=w.heap.setIfInBounds r (.mapIter (some (ρ im).blk) ms.size (seen.push j) ms.size)}:=by unfold execOp;rw[L.p1];simp only;rw[hptr];exact qT hrun
   rw[hex,Oper.upon_value,L.q1];obtain⟨f1,f2⟩:=L.h1t x.1 x.2 h';have etup:(Value.tuple #[.bool true,e.key,e.val])=cv ρ (.tup [.s (.bool true),.s x.1,.s x.2]):=by simp[cv,c1,c0,hent.1,hent.2]
   rw[etup];refine zbP (hcall _ hg2) L.l1 L.g1 _ h' _ _ ρ _ _ L.c1 f1 R2 (hF.put (v:= .tup [.s (.bool true),.s x.1,.s x.2]) (d:=some d1) (fun t ht=>by cases ht;exact L.k1) (fun v hv=>by
    simp only[zuX,zvS,or_false] at hv;rcases hv with rfl|rfl|rfl
    ·trivial
    ·exact J8 nl1
    ·exact J8 nl2)) (fun ρ1 a1 w1 s1 s2 s3 s4=> ?_)
   have hb1:(ρ1 ii).blk=r∧(ρ1 ii).base=0:=by rw[s3 ii hil'];exact⟨hblk,hbase⟩
   have hm1:(ρ1 im).blk=(ρ im).blk:=by rw[s3 im himl]
   have hit1:w1.heap[r]? =some (.mapIter (some (ρ1 im).blk) es.length (seen.push j) es.length):=by rw[(s1.keep r (.inr rfl)).2,hm1,←hsz];exact zwh (show r<(w.drewN kk).heap.size from hrl)
   refine _root_.Go.wp_seq (wp_cond (t:=true) ?_ ?_)
   ·obtain⟨_,q,_⟩:=s2.get tc _ f2;show a1.tmps.getD tc undef=_;rw[q];rfl
   ·simp only[if_true];refine wp_skip (wp_block (_root_.Go.wp_seq (wp_region_list ?_)));rw[L.e2];unfold wpList;rw[hw2,zuO rfl];refine .inl ?_;unfold Oper.wp;obtain⟨t1,t2,⟨ms1,t3,t4,t5⟩,t6⟩:=s1.obj im _ him';have hsz1:ms1.size=es.length:=by
     have:=congrArg List.length t4;simpa using this
    obtain⟨e',he'⟩:∃e',ms1[j]? =some e':=⟨_,zvy (by rw[hsz1];exact hjs)⟩
    have hent1:e'.key=c0 ρ1 x.1∧e'.val=c0 ρ1 x.2:=by
     have h1:(ms1.toList.map fun e=>(e.key,e.val))[j]? =some (e'.key,e'.val):=by rw[zvC];simp[he']
     rw[t4,zvC,hx] at h1;simp only[zvb,zuE,zuH] at h1;exact⟨h1.1.symm,h1.2.symm⟩
    have hptr1:a1.eval (.tmp it)= .pointer (some ⟨r,0,none⟩):=by obtain⟨_,q,_⟩:=s2.get it _ ((L.h2i x.1 x.2).trans hii);show a1.tmps.getD it undef=_;rw[q];simp[cv,c0,hb1.1,hb1.2]
    have hex2:(execOp a1.eval L.o2).run P w1= .ok (.value (.tuple #[e'.key,e'.val])) w1:=by unfold execOp;rw[L.p2];simp only;rw[hptr1];exact qT (zew (by rw[hsz1];exact hit1) t3 t5 he')
    rw[hex2,Oper.upon_value,L.q2];have etup2:(Value.tuple #[e'.key,e'.val])=cv ρ1 (.tup [.s x.1,.s x.2]):=by simp[cv,c1,hent1.1,hent1.2]
    rw[etup2];refine zbP (hcall _ hg2) L.l2 L.g2 _ h' _ _ ρ1 _ w1 L.c2 (L.h2 x.1 x.2 h') s1 (s2.put (v:= .tup [.s x.1,.s x.2]) (d:=some d2) (fun t ht=>by cases ht;exact L.k2) (fun v hv=>by
     simp only[zuX,zvS,or_false] at hv;rcases hv with rfl|rfl
     ·exact J8 nl1
     ·exact J8 nl2)) (fun ρ2 a2 w2 u1 u2 u3 u4=> ?_)
    obtain⟨ex,fr2,h2,v1,v2,v3⟩:=L.h3 x hxm h' gr;refine zcy hG hg2 hm hcall hgrow n rest L.hs L.er L.hs' L.c3 _ h' ex fr2 h2 v1 ρ2 a2 w2 u1 u2 _ (fun ρ3 a3 w3 y1 y2 y3 y4=> ?_);have hE3:Ext h'.length ρ ρ3:=(s3.trans (zuL _) u3).trans (zuL _) y3;have R3:Rel P w0 ρ3 h2 w3:=R1.unbase (fun k hk=> .inl hk) y1;have gr3:=gr.trans v2;have hE0:=hE.trans gr.le hE3;rcases v3 with⟨g,rfl,hkeep⟩|⟨g,rfl,rfl⟩
    ·have hb3:(ρ3 ii).blk=r∧(ρ3 ii).base=0:=by rw[hE3 ii hil'];exact⟨hblk,hbase⟩
     have hm3:(ρ3 im).blk=(ρ im).blk:=by rw[hE3 im himl]
     refine ih (seen.push j) ρ3 h2 a3 w3 ?_ R3 gr3 hE0 (by rw[←hkeep];exact y2.keep K) hb3.1 hb3.2 ?_ ?_ ?_
     ·have:=zqa (seen:=seen.toList) hjs hns;rw[Array.toList_push];omega
     ·rw[(y1.keep r (.inr rfl)).2,hm3,←hsz];exact zwh (show r<(w.drewN kk).heap.size from hrl)
     ·intro q hq y hy;rw[Array.toList_push] at hq;rcases zuY.1 hq with hq|hq
      ·exact hseen q hq y hy
      ·obtain rfl:=zvm.1 hq;rw[hx] at hy;obtain rfl:=zuG hy;exact g
     ·intro i o hi hh e;exact y1.out i o hi hh (.inr e)
    ·exact hQ2 ⟨x,hxm,g⟩ ρ3 h2 a3 w3 R3 gr3 hE0 y2
theorem zgB{call:zU}(hcall:ZE P w0 call){N:Nat}{Q:Exit→Act→World→Prop}{ops:Array Oper}(l2:List Oper):∀(l:List Oper) (gs:List EG) (fr:Fr) (h:LH) (fr':Fr) (h':LH) (ρ:Nat→Ph) (a:Act) (w:World),Zh P N ops l=some gs→jY call gs fr h=some (fr',h')→Rel P w0 ρ h w→FrR ρ h.length N fr a→
 (∀ρ' a' w',Rel P w0 ρ' h' w'→FrR ρ' h'.length N fr' a'→Ext h.length ρ ρ'→h.length≤h'.length→wpList P ops Q l2 a' w')→wpList P ops Q (l++l2) a w
 |[],gs,fr,h,fr',h',ρ,a,w,hc,he,R,hF,hQ=>by
  simp only[Zh,zuE] at hc;subst hc;simp only[jY,zuE,zuH] at he;obtain⟨rfl,rfl⟩:=he;exact hQ ρ a w R hF (Ext.refl _ _) (zuL _)
 |o::l,gs,fr,h,fr',h',ρ,a,w,hc,he,R,hF,hQ=>by
  simp only[Zh] at hc;split at hc
  ·rename_i g hg;obtain⟨gs',hgs,rfl⟩:=zuI.1 hc;obtain⟨d1,d2,d3,d4⟩:=zaC hg;simp only[jY] at he;rw[zv5];unfold wpList;split at he
   ·rename_i hw;rw[zbk hF hg hw,zuO rfl];split at he
    ·rename_i v h1 hs;refine .inl (zgS hcall R hF d3.1 d3.2 hs fun ρ1 w1 q1 q2 q3 q4=> ?_);rw[d2] at he;exact zgB hcall l2 l gs' _ h1 fr' h' ρ1 _ w1 hgs he q1 ((hF.ext q2 q3).put d1 q4) (fun ρ2 a2 w2 r1 r2 r3 r4=>hQ ρ2 a2 w2 r1 r2 (q2.trans q3 r3) (by omega))
    ·cases he
   ·rename_i hw;rw[zbk hF hg hw,zuQ (by decide)];rw[d2] at he;have hu:(undef:Value)=cv ρ (.tup []):=rfl;rw[hu];exact zgB hcall l2 l gs' _ h fr' h' ρ _ w hgs he R (hF.put d1 (v:= .tup []) (fun v hv=>by cases hv)) hQ
   ·cases he
  ·cases hc
def ZR:EC→Bool
 | .seq a b=>ZR a&&ZR b
 | .cond _ a b=>ZR a&&ZR b
 | .block _ b=>ZR b
 | .loop _ _=>false
 | .scope _=>false
 |_=>true
theorem zfP{call:zU}{n:Nat}:∀(c:EC),ZR c=true→∀(fr:Fr) (h:LH),zp call n c fr h=zC call c fr h:=by
 intro c
 induction c with
 |skip=>intro _ fr h;simp only[zp,zC]
 |label l=>intro _ fr h;simp only[zp,zC]
 |ops l k=>intro _ fr h;simp only[zp,zC]
 |draw l p k=>intro _ fr h;simp only[zp,zC]
 |exit i k=>intro _ fr h;simp only[zp,zC]
 |ret k=>intro _ fr h;simp only[zp,zC]
 |goto l k=>intro _ fr h;simp only[zp,zC]
 |ext k m g=>intro _ fr h;simp only[zp,zC]
 |seq a b iha ihb=>
  intro hn fr h;simp only[ZR,zuP] at hn;simp only[zp,zC,iha hn.1];cases zC call a fr h with
  |none=>rfl
  |some r=>
   obtain⟨x,f1,h1⟩:=r
   cases x<;>first
    |exact ihb hn.2 _ _
    |rfl
 |cond c a b iha ihb=>
  intro hn fr h;simp only[ZR,zuP] at hn;simp only[zp,zC,iha hn.1,ihb hn.2];cases odS fr c with
  |none=>rfl
  |some v=>cases v<;>rfl
 |block i b ih=>
  intro hn fr h;simp only[ZR] at hn;simp only[zp,zC,ih hn];cases zC call b fr h with
  |none=>rfl
  |some r=>
   obtain⟨x,f1,h1⟩:=r;cases x<;>rfl
 |loop k b ih=>intro hn;cases hn
 |scope b ih=>intro hn;cases hn
theorem zaa(C:Nat→Option EF):YA (zy C):=fun f args h v h' he=>by obtain⟨n,hn⟩:=zc0 he;exact ZG C n _ _ _ _ _ (hn n (zuL _))
theorem Rel.range{ρ:Nat→Ph}{h:LH}{w:World}(R:Rel P w0 ρ h w){im:Nat}{es:List (SV×SV)}(him:h[im]? =some (.map es)){t k e:TypeId}(ht:P.underlying t=some (.map k e)):
 ∃w',(Instr.range t (c0 ρ (.mp im))).run P w= .ok (.pointer (some ⟨w.heap.size,0,none⟩)) w'∧Rel P w0 (upd ρ h.length ⟨w.heap.size,0,1,1,undef⟩) (h++[.dead]) w'∧w'.heap[w.heap.size]? =some (.mapIter (some (ρ im).blk) es.length #[] es.length):=by
 obtain⟨m1,m2,⟨ms,m3,m4,m5⟩,m6⟩:=R.obj im _ him;have hsz:ms.size=es.length:=by have:=congrArg List.length m4;simpa using this
 refine⟨_,run_range_map w t k e _ ms ms.size ht m3,(R.allocFree _).pseudo _ .dead rfl trivial,?_⟩;rw[heap_alloc_new,hsz]
theorem ZC{C:Nat→Option EF}{f k:Nat}{g:List FV→LH→Option (List FV×LH)}(hf:C f=some ⟨k,.ext k 1 g,(List.range 1).map fun i=> .tmp (k+i)⟩){args:List FV}{h h':LH}{v:FV}(hl:args.length=k)(hg:g args h=some ([v],h'))(hle:h.length≤h'.length)(hfl:Yg [v]=true):zy C f args h=some (v,h'):=by
 refine JM hf (by simp[hl]) ?_;unfold zg9;have h1:JL (jj 0 args) 0 k=some args:=by rw[←hl];exact zeB args 0
 simp only[zC,zlF,h1,zwr,hg,zuS,if_true,hle];simp only[List.range_one,zu2,zv9,zwa,jO,zgG,jj,yq,if_true,zvb,qR,hfl,qL]
end
end Go.Proofs.YtdmcfjkgopmlgaaGreatDoor.Ev
namespace Go.Proofs.YtdmcfjkgopmlgaaGreatDoor.Ev
open Go
@[simp] def gG(d:Nat)(o:EO):EG:=⟨some d,o,none⟩
@[simp] def gN(o:EO):EG:=⟨none,o,none⟩
@[simp] def gT(s:Nat)(g:EG):EG:=⟨g.dst,g.op,some (s,true)⟩
@[simp] def gF(s:Nat)(g:EG):EG:=⟨g.dst,g.op,some (s,false)⟩
@[simp] def mv(d a:Nat):EG:=⟨some d,.mov (.t a),none⟩
@[simp] def mi(d:Nat)(n:Int):EG:=⟨some d,.mov (.c (.s (.int .i64 n))),none⟩
@[simp] def mb(d:Nat)(b:Bool):EG:=⟨some d,.mov (.c (.s (.bool b))),none⟩
@[simp] def mc(d:Nat)(v:SV):EG:=⟨some d,.mov (.c (.s v)),none⟩
@[simp] def ld(d a:Nat):EG:=⟨some d,.load false 1 (.t a),none⟩
@[simp] def ln(d n a:Nat):EG:=⟨some d,.load true n (.t a),none⟩
@[simp] def fd(d o a:Nat):EG:=⟨some d,.fad o (.t a),none⟩
@[simp] def ca(d f a:Nat):EG:=⟨some d,.call f [.t a],none⟩
@[simp] def cb(d f a b:Nat):EG:=⟨some d,.call f [.t a,.t b],none⟩
@[simp] def cc(d f a b c:Nat):EG:=⟨some d,.call f [.t a,.t b,.t c],none⟩
@[simp] def pO(d a b:Nat):EG:=⟨some d,.pick (.t a) (.c (.s (.bool true))) (.t b),none⟩
@[simp] def pA(d a b:Nat):EG:=⟨some d,.pick (.t a) (.t b) (.c (.s (.bool false))),none⟩
@[simp] def nc(d a:Nat):EG:=⟨some d,.nilc (.t a),none⟩
@[simp] def xt(d a i:Nat):EG:=⟨some d,.ext (.t a) i,none⟩
@[simp] def lE(d a:Nat):EG:=⟨some d,.len (.t a),none⟩
@[simp] def nT(d a:Nat):EG:=⟨some d,.un .not (.t a),none⟩
@[simp] def ia(d t z a b:Nat):EG:=⟨some d,.iad t z (.t a) (.t b),none⟩
@[simp] def bb(d:Nat)(o:BinOp)(a b:Nat):EG:=⟨some d,.bin o (.t a) (.t b),none⟩
@[simp] def bi(d:Nat)(o:BinOp)(a:Nat)(n:Int):EG:=⟨some d,.bin o (.t a) (.c (.s (.int .i64 n))),none⟩
@[simp] def nw(d t n a:Nat):EG:=⟨some d,.new t n (.t a),none⟩
@[simp] def ap(d t z y a b:Nat):EG:=⟨some d,.app t z y (.t a) (.t b),none⟩
@[simp] def sr(n a b:Nat):EG:=⟨none,.store n (.t a) (.t b),none⟩
def qg:EC→List (List Nat)
 | .ops _ k=>[k]
 | .draw _ _ k=>[k]
 | .seq a b=>qg a++qg b
 | .cond _ a b=>qg a++qg b
 | .block _ b=>qg b
 | .loop k b=>k::qg b
 | .exit _ k=>[k]
 | .ret k=>[k]
 | .scope b=>qg b
 | .goto _ k=>[k]
 |_=>[]
attribute [simp] zvt zvL zu2 zv9 zwH Option.getD_none zvc zv5 zwj ziF zrz ztk zfw ziC zk7 ziD zb0 ziE zsj zkw zoT Qo zcO KD_eq zk8 ztl ztm zkF zob KO_eq KP_eq zmU K_ret zsy zlf zsu zfx zlg zsv zpO zsz zpM zpP zfy zsx zlh zpS zsk znQ zK jA jU opE jt odE odS odL zcq yq qx jj zl zcW zdA zej zjX unE zet zjc Y9 jO zgG qR qL Yg jI ZK qr zV zab zln zqE zlV znV bound rep zbJ zbH Jr nlS zgb zt6 zga JZ zrh zis zI zQ odT zaZ zh4 Qf yg qb yt zig rdO zdx nmV zev nmL nmS
inductive XV where
 |v (a:SV)
 |ptr (i w o:Nat)
 |sl (i w o n:Nat)
 |lst (t z n:Nat) (cs:List XV)
 |lp (cs:List XV) (o:Nat)
 |cl (i:Nat)
 |nl
inductive XF where
 |s (v:XV)
 |agg (l:List XV)
 |tup (l:List XF)
inductive XO where
 |own (w t z:Nat) (cs:List XV)
 |dead
 |clo (f:Nat) (first caps:List XF)
abbrev XH:=List XO
abbrev XFr:=List (Nat×Option XF)
def tgO:XO→Option (Bool×Nat)
 | .own w _ _ _=>some (false,w)
 | .clo _ _ _=>some (true,0)
 | .dead=>none
def tg(g:XH)(i:Nat):Option (Bool×Nat):=(g[i]?).bind tgO
structure XE where
 φ:Nat→Nat
 g:XH
 h:LH
 z:Nat→Prop
 e:Nat→Prop
def zmq(e:Nat→Prop)(i:Nat):XO→Prop
 | .own _ _ _ cs=>cs≠[]∨e i
 | .clo _ _ _=>True
 | .dead=>False
def sol(R:XE)(i:Nat):Prop:=∃o,R.g[i]? =some o∧zmq R.e i o
mutual
def RV(R:XE):XV→SV→Prop
 | .v a,b=>b=a∧nlS a=true
 | .ptr i w o,b=>i<R.g.length∧(∀k,tg R.g i=some (false,k)→w≤k)∧(tg R.g i=some (false,w)→b= .ptr (R.φ i) o)
 | .sl i w o n,b=>i<R.g.length∧(∀k,tg R.g i=some (false,k)→w≤k)∧zbE b=some n∧(tg R.g i=some (false,w)→(¬sol R i∧n=0∧(b= .nils∨∃j p q,b= .sl0 j p q))∨(sol R i∧∃p,b= .sl (R.φ i) p o n))
 | .lst t z n cs,b=>(n=0∧cs=[]∧(b= .nils∨∃i p o,b= .sl0 i p o))∨∃j p o vs,b= .sl j p o n∧R.z j∧cellsOf R.h j=some (t,vs)∧cs.length=n*z∧(o+n)*z≤vs.length∧RVs R cs ((vs.drop (o*z)).take (n*z))
 | .lp cs o,b=>∃j q t vs,b= .ptr j (q+o)∧R.z j∧cellsOf R.h j=some (t,vs)∧q+cs.length≤vs.length∧RVs R cs ((vs.drop q).take cs.length)
 | .cl i,b=>i<R.g.length∧(tg R.g i=some (true,0)→b= .cl (R.φ i))
 | .nl,b=>b= .nils∨∃i p o,b= .sl0 i p o
def RVs(R:XE):List XV→List SV→Prop
 |[],[]=>True
 |a::r,b::s=>RV R a b∧RVs R r s
 |_,_=>False
end
mutual
def RF(R:XE):XF→FV→Prop
 | .s a,.s b=>RV R a b
 | .agg l,.agg m=>RVs R l m
 | .tup l,.tup m=>RFs R l m
 |_,_=>False
def RFs(R:XE):List XF→List FV→Prop
 |[],[]=>True
 |a::r,b::s=>RF R a b∧RFs R r s
 |_,_=>False
end
def RO(R:XE)(i:Nat):XO→Prop
 | .own _ t _ cs=>(cs=[]∧¬R.e i)∨(¬R.z (R.φ i)∧∃vs,R.h[R.φ i]? =some (.own t vs)∧RVs R cs vs)
 | .dead=>True
 | .clo f a b=>¬R.z (R.φ i)∧∃a' b',R.h[R.φ i]? =some (.clo f a' b')∧RFs R a a'∧RFs R b b'
structure HR(R:XE):Prop where
 ob:∀i o,R.g[i]? =some o→RO R i o
 inj:∀i j,sol R i→sol R j→R.φ i=R.φ j→i=j
 fz:∀j,R.z j→j<R.h.length
structure Ex2(B:Nat→Prop)(R R':XE):Prop where
 lg:R.g.length≤R'.g.length
 lh:R.h.length≤R'.h.length
 vr:∀i,i<R.g.length→∀k w',tg R'.g i=some (k,w')→∃w,tg R.g i=some (k,w)∧w≤w'∧(w=w'→R'.φ i=R.φ i∧(sol R' i↔sol R i))
 same:∀j,j<R.h.length→(∀i,B i→sol R i→R.φ i≠j)→R'.h[j]? =R.h[j]?
 z:∀j,R.z j→R'.z j
 new:∀i,sol R' i→(sol R i∧R'.φ i=R.φ i)∨R.h.length≤R'.φ i
 gs:∀i,i<R.g.length→¬B i→R'.g[i]? =R.g[i]?
theorem sol_lt{R:XE}{i:Nat}(e:sol R i):i<R.g.length:=by obtain⟨o,e,_⟩:=e;exact(zuJ.1 e).1
theorem HR.not_z{R:XE}(H:HR R){i:Nat}(hs:sol R i):¬R.z (R.φ i)∧R.φ i<R.h.length:=by
 obtain⟨o,hi,e⟩:=hs;have:=H.ob i o hi;cases o with
 |dead=>exact e.elim
 |clo f a b=>
  obtain⟨h1,a',b',h2,_⟩:=this;exact⟨h1,(zuJ.1 h2).1⟩
 |own w t z cs=>
  rcases this with⟨rfl,h1⟩|⟨h1,vs,h2,_⟩
  ·exact absurd rfl (e.resolve_right h1)
  ·exact⟨h1,(zuJ.1 h2).1⟩
theorem Ex2.keep{B:Nat→Prop}{R R':XE}(H:HR R)(x:Ex2 B R R'){j:Nat}(hz:R.z j):R'.h[j]? =R.h[j]? :=
 x.same j (H.fz j hz) fun i _ hs e=>(H.not_z hs).1 (e▸hz)
theorem Ex2.cells{B:Nat→Prop}{R R':XE}(H:HR R)(x:Ex2 B R R'){j:Nat}(hz:R.z j):cellsOf R'.h j=cellsOf R.h j:=by rw[zV,zV,x.keep H hz]
mutual
theorem RV.mono{B:Nat→Prop}{R R':XE}(H:HR R)(x:Ex2 B R R'):∀(a:XV) (b:SV),RV R a b→RV R' a b
 | .v a,b,r=>by simp only[RV] at r⊢;exact r
 | .ptr i w o,b,r=>by
   simp only[RV] at r⊢;obtain⟨r1,r2,r3⟩:=r;refine⟨zvB r1 x.lg,fun k hk=> ?_,fun hk=> ?_⟩
   ·obtain⟨w0,e0,l0,_⟩:=x.vr i r1 _ _ hk;exact zvz (r2 _ e0) l0
   ·obtain⟨w0,e0,l0,f0⟩:=x.vr i r1 _ _ hk;have:w0=w:=Nat.le_antisymm l0 (r2 _ e0);subst this;rw[(f0 rfl).1];exact r3 e0
 | .sl i w o n,b,r=>by
   simp only[RV] at r⊢;obtain⟨r1,r2,r4,r3⟩:=r;refine⟨zvB r1 x.lg,fun k hk=> ?_,r4,fun hk=> ?_⟩
   ·obtain⟨w0,e0,l0,_⟩:=x.vr i r1 _ _ hk;exact zvz (r2 _ e0) l0
   ·obtain⟨w0,e0,l0,f0⟩:=x.vr i r1 _ _ hk;have:w0=w:=Nat.le_antisymm l0 (r2 _ e0);subst this;rw[(f0 rfl).1,(f0 rfl).2];exact r3 e0
 | .lst t z n cs,b,r=>by
   simp only[RV] at r⊢;rcases r with r|⟨j,p,o,vs,r1,r2,r3,r4,r5,r6⟩
   ·exact .inl r
   ·exact .inr ⟨j,p,o,vs,r1,x.z _ r2,by rw[x.cells H r2];exact r3,r4,r5,RVs.mono H x cs _ r6⟩
 | .lp cs o,b,r=>by
   simp only[RV] at r⊢;obtain⟨j,q,t,vs,r1,r2,r3,r4,r5⟩:=r;exact⟨j,q,t,vs,r1,x.z _ r2,by rw[x.cells H r2];exact r3,r4,RVs.mono H x cs _ r5⟩
 | .cl i,b,r=>by
   simp only[RV] at r⊢;obtain⟨r1,r2⟩:=r;refine⟨zvB r1 x.lg,fun hk=> ?_⟩;obtain⟨w0,e0,l0,f0⟩:=x.vr i r1 _ _ hk;have:w0=0:=by omega
   subst this;rw[(f0 rfl).1];exact r2 e0
 | .nl,b,r=>by simp only[RV] at r⊢;exact r
theorem RVs.mono{B:Nat→Prop}{R R':XE}(H:HR R)(x:Ex2 B R R'):∀(a:List XV) (b:List SV),RVs R a b→RVs R' a b
 |[],[],_=>by simp[RVs]
 |a::r,b::s,h=>by
  simp only[RVs] at h⊢;exact⟨RV.mono H x a b h.1,RVs.mono H x r s h.2⟩
 |[],_::_,h=>by simp[RVs] at h
 |_::_,[],h=>by simp[RVs] at h
end
mutual
theorem RF.mono{B:Nat→Prop}{R R':XE}(H:HR R)(x:Ex2 B R R'):∀(a:XF) (b:FV),RF R a b→RF R' a b
 | .s a,.s b,h=>by simp only[RF] at h⊢;exact RV.mono H x a b h
 | .agg a,.agg b,h=>by simp only[RF] at h⊢;exact RVs.mono H x a b h
 | .tup a,.tup b,h=>by simp only[RF] at h⊢;exact RFs.mono H x a b h
 | .s _,.agg _,h=>by simp[RF] at h
 | .s _,.tup _,h=>by simp[RF] at h
 | .agg _,.s _,h=>by simp[RF] at h
 | .agg _,.tup _,h=>by simp[RF] at h
 | .tup _,.s _,h=>by simp[RF] at h
 | .tup _,.agg _,h=>by simp[RF] at h
theorem RFs.mono{B:Nat→Prop}{R R':XE}(H:HR R)(x:Ex2 B R R'):∀(a:List XF) (b:List FV),RFs R a b→RFs R' a b
 |[],[],_=>by simp[RFs]
 |a::r,b::s,h=>by
  simp only[RFs] at h⊢;exact⟨RF.mono H x a b h.1,RFs.mono H x r s h.2⟩
 |[],_::_,h=>by simp[RFs] at h
 |_::_,[],h=>by simp[RFs] at h
end
theorem Ex2.refl(B:Nat→Prop)(R:XE):Ex2 B R R:=⟨zuL _,zuL _,fun i _ k w e=>⟨w,e,zuL _,fun _=>⟨rfl,Iff.rfl⟩⟩,fun _ _ _=>rfl,fun _ h=>h,fun i h=> .inl ⟨h,rfl⟩,fun _ _ _=>rfl⟩
theorem Ex2.trans{B:Nat→Prop}{R R' R'':XE}(a:Ex2 B R R')(b:Ex2 B R' R''):Ex2 B R R'':=by
 refine⟨zvz a.lg b.lg,zvz a.lh b.lh,fun i hi k w'' e=> ?_,fun j hj hn=> ?_,fun j hj=>b.z _ (a.z _ hj),fun i hi=> ?_,fun i hi hb=>(b.gs i (zvB hi a.lg) hb).trans (a.gs i hi hb)⟩
 ·obtain⟨w',e',l',f'⟩:=b.vr i (zvB hi a.lg) k w'' e;obtain⟨w,e0,l0,f0⟩:=a.vr i hi k w' e';refine⟨w,e0,zvz l0 l',fun hw=> ?_⟩;have h1:w'=w'':=by omega
  have h2:=f' h1;have h3:=f0 (by omega);exact⟨h2.1.trans h3.1,h2.2.trans h3.2⟩
 ·rw[b.same j (zvB hj a.lh) fun i hB hs=> ?_,a.same j hj hn];rcases a.new i hs with⟨h1,h2⟩|h1
  ·rw[h2];exact hn i hB h1
  ·omega
 ·rcases b.new i hi with⟨h1,h2⟩|h1
  ·rcases a.new i h1 with⟨h3,h4⟩|h3
   ·exact .inl ⟨h3,by rw[h2,h4]⟩
   ·exact .inr (by rw[h2];exact h3)
  ·exact .inr (zvz a.lh h1)
theorem Ex2.wide{B B':Nat→Prop}{R R':XE}(a:Ex2 B R R')(hb:∀i,i<R.g.length→B i→B' i):Ex2 B' R R':=
 ⟨a.lg,a.lh,a.vr,fun j hj hn=>a.same j hj fun i hB hs=>hn i (hb i (sol_lt hs) hB) hs,a.z,a.new,fun i hi hn=>a.gs i hi fun h=>hn (hb i hi h)⟩
theorem RVs.len{R:XE}:∀{a:List XV} {b:List SV},RVs R a b→a.length=b.length
 |[],[],_=>rfl
 |a::r,b::s,h=>by
  simp only[RVs] at h;simp[RVs.len h.2]
 |[],_::_,h=>by simp[RVs] at h
 |_::_,[],h=>by simp[RVs] at h
theorem RVs.get{R:XE}:∀{a:List XV} {b:List SV} {k:Nat} {x:XV},RVs R a b→a[k]? =some x→∃y,b[k]? =some y∧RV R x y
 |[],_,k,x,_,e=>by simp at e
 |a::r,b::s,0,x,h,e=>by
  simp only[RVs] at h;simp only[zvt,zuE] at e;exact⟨b,rfl,e▸h.1⟩
 |a::r,b::s,k+1,x,h,e=>by
  simp only[RVs] at h;simp only[zvL] at e⊢;exact RVs.get h.2 e
 |_::_,[],_,_,h,_=>by simp[RVs] at h
theorem RVs.drop{R:XE}:∀{a:List XV} {b:List SV} (k:Nat),RVs R a b→RVs R (a.drop k) (b.drop k)
 |_,_,0,h=>h
 |[],[],k+1,_=>by simp[RVs]
 |a::r,b::s,k+1,h=>by
  simp only[RVs] at h;exact RVs.drop k h.2
 |[],_::_,_+1,h=>by simp[RVs] at h
 |_::_,[],_+1,h=>by simp[RVs] at h
theorem RVs.take{R:XE}:∀{a:List XV} {b:List SV} (k:Nat),RVs R a b→RVs R (a.take k) (b.take k)
 |_,_,0,h=>by simp[RVs]
 |[],[],k+1,_=>by simp[RVs]
 |a::r,b::s,k+1,h=>by
  simp only[RVs] at h;simp only[zu3,RVs];exact⟨h.1,RVs.take k h.2⟩
 |[],_::_,_+1,h=>by simp[RVs] at h
 |_::_,[],_+1,h=>by simp[RVs] at h
theorem RVs.app{R:XE}:∀{a:List XV} {b:List SV} {c:List XV} {d:List SV},RVs R a b→RVs R c d→RVs R (a++c) (b++d)
 |[],[],_,_,_,h=>h
 |a::r,b::s,c,d,h,h2=>by
  simp only[RVs] at h;simp only[zv5,RVs];exact⟨h.1,RVs.app h.2 h2⟩
 |[],_::_,_,_,h,_=>by simp[RVs] at h
 |_::_,[],_,_,h,_=>by simp[RVs] at h
theorem RVs.set{R:XE}:∀{a:List XV} {b:List SV} {x:XV} {y:SV} (k:Nat),RVs R a b→RV R x y→RVs R (a.set k x) (b.set k y)
 |[],[],_,_,_,_,_=>by simp[RVs]
 |a::r,b::s,x,y,0,h,h2=>by
  simp only[RVs] at h;simp only[List.set_cons_zero,RVs];exact⟨h2,h.2⟩
 |a::r,b::s,x,y,k+1,h,h2=>by
  simp only[RVs] at h;simp only[List.set_cons_succ,RVs];exact⟨h.1,RVs.set k h.2 h2⟩
 |[],_::_,_,_,_,h,_=>by simp[RVs] at h
 |_::_,[],_,_,_,h,_=>by simp[RVs] at h
def setX:List XV→Nat→List XV→List XV
 |vs,_,[]=>vs
 |vs,o,c::r=>setX (vs.set o c) (o+1) r
theorem zbe:∀(l:List XV) (a:List XV) (o:Nat),(setX a o l).length=a.length
 |[],_,_=>rfl
 |c::l,a,o=>by simp[setX,zbe l]
theorem RVs.setX{R:XE}:∀{l:List XV} {m:List SV} {a:List XV} {b:List SV} (o:Nat),RVs R l m→RVs R a b→RVs R (setX a o l) (qr b o m)
 |[],[],_,_,_,_,h=>h
 |c::l,d::m,a,b,o,h,h2=>by
  simp only[RVs] at h;simp only[Ev.setX,qr];exact RVs.setX (o+1) h.2 (h2.set o h.1)
 |[],_::_,_,_,_,h,_=>by simp[RVs] at h
 |_::_,[],_,_,_,h,_=>by simp[RVs] at h
theorem RVs.v{R:XE}:∀{l:List SV},(∀a∈l,nlS a=true)→RVs R (l.map .v) l
 |[],_=>by simp[RVs]
 |a::l,h=>by simp only[zu2,RVs,RV];exact⟨⟨trivial,h a (by simp)⟩,RVs.v fun b hb=>h b (by simp[hb])⟩
theorem JB{g:XH}{i:Nat}{o:XO}(e:g[i]? =some o):tg g i=tgO o:=by unfold tg;rw[e];rfl
theorem zbW{g r:XH}{i:Nat}(hi:i<g.length):tg (g++r) i=tg g i:=by unfold tg;rw[zuK hi]
theorem zj3{g:XH}{i j:Nat}{o:XO}(hn:i≠j):tg (g.set i o) j=tg g j:=by unfold tg;rw[zuR hn]
theorem QN{g:XH}{i:Nat}{o:XO}(hi:i<g.length):tg (g.set i o) i=tgO o:=by unfold tg;rw[zu1 hi];rfl
theorem zuf{g:XH}{o:XO}:tg (g++[o]) g.length=tgO o:=by unfold tg;rw[zuN (zuL _),zvG];rfl
theorem Zw{R:XE}{i w t z:Nat}{cs:List XV}(e:R.g[i]? =some (.own w t z cs))(hc:cs≠[]∨R.e i):sol R i:=⟨_,e,hc⟩
theorem ql{R:XE}{i w t z:Nat}{cs:List XV}(e:R.g[i]? =some (.own w t z cs)):sol R i↔cs≠[]∨R.e i:=by refine⟨fun⟨o,h1,h2⟩=> ?_,fun h=>Zw e h⟩;obtain rfl:=zuG (e.symm.trans h1);exact h2
def XE.new(R:XE)(x:XO)(y:LO):XE:=⟨fun i=>if i=R.g.length then R.h.length else R.φ i,R.g++[x],R.h++[y],R.z,fun i=>if i=R.g.length then True else R.e i⟩
theorem zgv{R:XE}{x:XO}{y:LO}{i:Nat}(hi:i<R.g.length):sol (R.new x y) i↔sol R i:=by
 have hn:¬i=R.g.length:=by omega
 have e:(R.new x y).g[i]? =R.g[i]? :=zuK hi;unfold sol;rw[e];refine exists_congr fun o=>and_congr_right fun _=> ?_;cases o<;>simp[zmq,XE.new,hn]
theorem Yx(B:Nat→Prop)(R:XE)(x:XO)(y:LO):Ex2 B R (R.new x y):=by
 refine⟨by simp[XE.new],by simp[XE.new],fun i hi k w e=> ?_,fun j hj _=>by simp only[XE.new];exact zuK hj,fun _ h=>h,fun i hs=> ?_,fun i hi _=>zuK hi⟩
 ·have hs:=zgv (x:=x) (y:=y) hi;simp only[XE.new] at e⊢;rw[zbW hi] at e;exact⟨w,e,zuL _,fun _=>⟨by rw[zuQ (by omega)],hs⟩⟩
 ·by_cases hi:i=R.g.length
  ·exact .inr (by simp only[XE.new];rw[zuO hi];exact zuL _)
  ·have hlt:i<R.g.length:=by
    have:=sol_lt hs;simp only[XE.new,zuM,zuS] at this;omega
   exact .inl ⟨(zgv hlt).1 hs,by simp only[XE.new];rw[zuQ hi]⟩
theorem RO.mono{B:Nat→Prop}{R R':XE}(H:HR R)(x:Ex2 B R R'){i:Nat}{o:XO}(ho:R.g[i]? =some o)(he:R'.e i↔R.e i)(h2:sol R i→R'.h[R.φ i]? =R.h[R.φ i]?)(h3:sol R i→R'.φ i=R.φ i)(hz:sol R i→¬R.z (R.φ i)→¬R'.z (R.φ i))(r:RO R i o):RO R' i o:=by
 cases o with
 |dead=>trivial
 |own w t z cs=>
  rcases r with⟨rfl,r0⟩|⟨r1,vs,r2,r3⟩
  ·exact .inl ⟨rfl,fun h=>r0 (he.1 h)⟩
  ·by_cases hs:sol R i
   ·have e3:=h3 hs;exact .inr ⟨by rw[e3];exact hz hs r1,vs,by rw[e3,h2 hs];exact r2,RVs.mono H x _ _ r3⟩
   ·rw[ql ho] at hs;exact .inl ⟨Classical.byContradiction fun h=>hs (.inl h),fun h=>hs (.inr (he.1 h))⟩
 |clo f a b=>
  obtain⟨r1,a',b',r2,r3,r4⟩:=r;have hs:sol R i:=⟨_,ho,trivial⟩
  have e3:=h3 hs;exact⟨by rw[e3];exact hz hs r1,a',b',by rw[e3,h2 hs];exact r2,RFs.mono H x _ _ r3,RFs.mono H x _ _ r4⟩
theorem zog{R:XE}(H:HR R){x:XO}{y:LO}(hr:RO (R.new x y) R.g.length x):HR (R.new x y):=by
 have X:=Yx (fun _=>False) R x y;refine⟨fun i o ho=> ?_,fun i j hi hj e=> ?_,fun j hj=> ?_⟩
 ·by_cases hi:i<R.g.length
  ·have hn:¬i=R.g.length:=by omega
   have ho':R.g[i]? =some o:=by
    simp only[XE.new] at ho
    rwa [zuK hi] at ho
   refine RO.mono H X ho' (by simp only[XE.new,zuQ hn]) (fun hs=> ?_) (fun _=> ?_) (fun _ h=>h) (H.ob i o ho')
   ·exact zuK (H.not_z hs).2
   ·simp only[XE.new];rw[zuQ hn]
  ·have hi':i=R.g.length:=by
    have:=(zuJ.1 ho).1;simp only[XE.new,zuM,zuS] at this;omega
   subst hi';have:x=o:=by simp only[XE.new] at ho;rw[zuN (zuL _),zvG] at ho;simpa using ho
   exact this▸hr
 ·rcases X.new i hi with⟨h1,h2⟩|h1<;>rcases X.new j hj with⟨h3,h4⟩|h3
  ·exact H.inj i j h1 h3 (by rw[←h2,←h4];exact e)
  ·have:=(H.not_z h1).2;rw[h2] at e;omega
  ·have:=(H.not_z h3).2;rw[h4] at e;omega
  ·have key:∀i,R.h.length≤(R.new x y).φ i→sol (R.new x y) i→i=R.g.length:=fun i hi hs=>by
    by_cases hx:i=R.g.length
    ·exact hx
    ·simp only[XE.new] at hi;rw[zuQ hx] at hi;have hlt:=sol_lt hs;simp only[XE.new,zuM,zuS] at hlt;have:=(H.not_z ((zgv (by omega)).1 hs)).2;omega
   rw[key i h1 hi,key j h3 hj]
 ·have:=H.fz j hj;simp only[XE.new,zuM,zuS];omega
theorem QG{R:XE}(H:HR R){w t z:Nat}{cs:List XV}{vs:List SV}(r:RVs R cs vs):HR (R.new (.own w t z cs) (.own t vs))∧(R.new (.own w t z cs) (.own t vs)).φ R.g.length=R.h.length:=by
 have e:(R.new (.own w t z cs) (.own t vs)).φ R.g.length=R.h.length:=by simp[XE.new]
 refine⟨zog H (.inr ⟨?_,vs,?_,RVs.mono H (Yx (fun _=>False) R _ _) _ _ r⟩),e⟩
 ·rw[e];exact fun hz=>absurd (H.fz _ hz) (Nat.lt_irrefl _)
 ·rw[e];simp only[XE.new];rw[zuN (zuL _),zvG];rfl
theorem zqX{R:XE}(H:HR R){f:Nat}{a b:List XF}{a' b':List FV}(r:RFs R a a')(r':RFs R b b'):HR (R.new (.clo f a b) (.clo f a' b'))∧(R.new (.clo f a b) (.clo f a' b')).φ R.g.length=R.h.length:=by
 have e:(R.new (.clo f a b) (.clo f a' b')).φ R.g.length=R.h.length:=by simp[XE.new]
 have X:=Yx (fun _=>False) R (.clo f a b) (.clo f a' b');refine⟨zog H ⟨?_,a',b',?_,RFs.mono H X _ _ r,RFs.mono H X _ _ r'⟩,e⟩
 ·rw[e];exact fun hz=>absurd (H.fz _ hz) (Nat.lt_irrefl _)
 ·rw[e];simp only[XE.new];rw[zuN (zuL _),zvG];rfl
def XE.set(R:XE)(i:Nat)(x:XO)(y:LO):XE:=⟨R.φ,R.g.set i x,R.h.set (R.φ i) y,R.z,R.e⟩
theorem zrw{g:XH}{i w t z t' z':Nat}{cs cs':List XV}(e:g[i]? =some (.own w t z cs))(j:Nat):tg (g.set i (.own w t' z' cs')) j=tg g j:=by
 by_cases h:i=j
 ·subst h;rw[QN (zuJ.1 e).1,JB e];rfl
 ·exact zj3 h
theorem zk2{R:XE}{i w t z:Nat}{cs cs':List XV}{y:LO}(e:R.g[i]? =some (.own w t z cs))(hc:cs≠[])(hl:cs'.length=cs.length)(j:Nat):sol (R.set i (.own w t z cs') y) j↔sol R j:=by
 have li:=(zuJ.1 e).1;have hc':cs'≠[]:=fun h=>hc (zvU (by rw[←hl,h];rfl));by_cases h:i=j
 ·subst h;have e':(R.set i (.own w t z cs') y).g[i]? =some (.own w t z cs'):=zu1 li;rw[ql e,ql e'];simp[hc,hc']
 ·have e':(R.set i (.own w t z cs') y).g[j]? =R.g[j]? :=zuR h;unfold sol;rw[e'];rfl
theorem zoI{B:Nat→Prop}{R:XE}{i w t z:Nat}{cs cs':List XV}{y:LO}(e:R.g[i]? =some (.own w t z cs))(hc:cs≠[])(hl:cs'.length=cs.length)(hB:B i):Ex2 B R (R.set i (.own w t z cs') y):=by
 have S:=fun j=>zk2 (y:=y) e hc hl j;refine⟨by simp[XE.set],by simp[XE.set],fun j hj k v ew=>⟨v,?_,zuL _,fun _=>⟨rfl,S j⟩⟩,fun j hj hn=> ?_,fun _ h=>h,fun j hs=> .inl ⟨(S j).1 hs,rfl⟩,fun j hj hn=>by simp only[XE.set];exact zuR (by rintro rfl;exact hn hB)⟩
 ·simp only[XE.set] at ew
  rwa [zrw e] at ew
 ·have:R.φ i≠j:=hn i hB (Zw e (.inl hc));simp only[XE.set];rw[zuR this]
theorem zt5{R:XE}(H:HR R){i w t z:Nat}{cs cs':List XV}{vs':List SV}(e:R.g[i]? =some (.own w t z cs))(hc:cs≠[])(hl:cs'.length=cs.length)(r:RVs R cs' vs'):HR (R.set i (.own w t z cs') (.own t vs')):=by
 have X:=zoI (B:=fun j=>j=i) (y:= .own t vs') e hc hl rfl;have S:=fun j=>zk2 (y:= .own t vs') e hc hl j;have hs:=Zw e (.inl hc);have hz:=H.not_z hs;refine⟨fun j o ho=> ?_,fun a b ha hb=>H.inj a b ((S a).1 ha) ((S b).1 hb),fun j hj=>by simpa[XE.set] using H.fz j hj⟩;by_cases hj:i=j
 ·subst hj;simp only[XE.set] at ho;rw[zu1 (zuJ.1 e).1] at ho;obtain rfl:=zuG ho;refine .inr ⟨hz.1,vs',?_,RVs.mono H X _ _ r⟩;simp only[XE.set];rw[zu1 hz.2]
 ·have ho':R.g[j]? =some o:=by
   simp only[XE.set] at ho
   rwa [zuR hj] at ho
  refine RO.mono H X ho' Iff.rfl (fun hsj=> ?_) (fun _=>rfl) (fun _ h=>h) (H.ob j o ho');simp only[XE.set];rw[zuR (fun h=>hj (H.inj i j hs hsj h))]
def XE.grow(R:XE)(i:Nat)(x:XO)(h:LH):XE:=⟨fun j=>if j=i then R.h.length else R.φ j,R.g.set i x,h,R.z,R.e⟩
theorem zbA{B:Nat→Prop}{R:XE}(H:HR R){i w t z:Nat}{cs new:List XV}{vs':List SV}{h0:LH}(e:R.g[i]? =some (.own w t z cs))(hn:new≠[])(hB:B i)(r:RVs R new vs')(hl:h0.length=R.h.length)(hh:∀j,(sol R i→R.φ i≠j)→h0[j]? =R.h[j]?):
 Ex2 B R (R.grow i (.own (w+1) t z new) (h0++[.own t vs']))∧HR (R.grow i (.own (w+1) t z new) (h0++[.own t vs'])):=by
 have li:=(zuJ.1 e).1;have tgs:∀j,i≠j→tg (R.g.set i (.own (w+1) t z new)) j=tg R.g j:=fun j h=>zj3 h;have S:∀j,i≠j→(sol (R.grow i (.own (w+1) t z new) (h0++[.own t vs'])) j↔sol R j):=fun j h=>by have e':(R.grow i (.own (w+1) t z new) (h0++[.own t vs'])).g[j]? =R.g[j]? :=zuR h;unfold sol;rw[e'];rfl
 have X:Ex2 B R (R.grow i (.own (w+1) t z new) (h0++[.own t vs'])):=by
  refine⟨by simp[XE.grow],by simp[XE.grow,hl],fun j hj k v ew=> ?_,fun j hj hnj=> ?_,fun _ h=>h,fun j hs=> ?_,fun j hj hn=>by simp only[XE.grow];exact zuR (by rintro rfl;exact hn hB)⟩
  ·by_cases hij:i=j
   ·subst hij;simp only[XE.grow] at ew;rw[QN li] at ew;simp only[tgO,zuE,zuH] at ew;obtain⟨rfl,rfl⟩:=ew;exact⟨w,by rw[JB e];rfl,by omega,by omega⟩
   ·have hS:=S j hij;simp only[XE.grow] at ew⊢;rw[tgs j hij] at ew;exact⟨v,ew,zuL _,fun _=>⟨by rw[zuQ (fun h=>hij h.symm)],hS⟩⟩
  ·simp only[XE.grow];rw[zuK (by omega)];exact hh j fun hs=>hnj i hB hs
  ·by_cases hij:i=j
   ·subst hij;exact .inr (by simp only[XE.grow,if_true];exact zuL _)
   ·exact .inl ⟨(S j hij).1 hs,by simp only[XE.grow];rw[zuQ (fun h=>hij h.symm)]⟩
 refine⟨X,fun j o ho=> ?_,fun a b ha hb hab=> ?_,fun j hj=> ?_⟩
 ·by_cases hij:i=j
  ·subst hij;simp only[XE.grow] at ho;rw[zu1 li] at ho;obtain rfl:=zuG ho;refine .inr ⟨?_,vs',?_,RVs.mono H X _ _ r⟩
   ·simp only[XE.grow,if_true];exact fun hz=>absurd (H.fz _ hz) (Nat.lt_irrefl _)
   ·simp only[XE.grow,if_true];rw[←hl,zuN (zuL _),zvG];rfl
  ·have ho':R.g[j]? =some o:=by
    simp only[XE.grow] at ho
    rwa [zuR hij] at ho
   refine RO.mono H X ho' Iff.rfl (fun hsj=> ?_) (fun _=>by simp only[XE.grow];rw[zuQ (fun h=>hij h.symm)]) (fun _ h=>h) (H.ob j o ho');simp only[XE.grow];rw[zuK (by rw[hl];exact(H.not_z hsj).2)];exact hh _ fun hs he=>hij (H.inj i j hs hsj he)
 ·simp only[XE.grow] at hab;by_cases h1:a=i<;>by_cases h2:b=i
  ·rw[h1,h2]
  ·rw[zuO h1,zuQ h2] at hab;have:=(H.not_z ((S b (fun h=>h2 h.symm)).1 hb)).2;omega
  ·rw[zuQ h1,zuO h2] at hab;have:=(H.not_z ((S a (fun h=>h1 h.symm)).1 ha)).2;omega
  ·rw[zuQ h1,zuQ h2] at hab;exact H.inj a b ((S a (fun h=>h1 h.symm)).1 ha) ((S b (fun h=>h2 h.symm)).1 hb) hab
 ·have:=H.fz j hj;simp only[XE.grow,zuM,zuS];omega
def XE.drop0(R:XE)(i:Nat)(x:XO):XE:=⟨R.φ,R.g.set i x,R.h,R.z,fun j=>R.e j∧i≠j⟩
theorem zlC{B:Nat→Prop}{R:XE}(H:HR R){i w t z:Nat}{cs:List XV}(e:R.g[i]? =some (.own w t z cs))(hB:B i):
 Ex2 B R (R.drop0 i (.own (w+1) t z []))∧HR (R.drop0 i (.own (w+1) t z []))∧¬sol (R.drop0 i (.own (w+1) t z [])) i:=by
 have li:=(zuJ.1 e).1;have S:∀j,i≠j→(sol (R.drop0 i (.own (w+1) t z [])) j↔sol R j):=fun j h=>by have e':(R.drop0 i (.own (w+1) t z [])).g[j]? =R.g[j]? :=zuR h;unfold sol;rw[e'];refine exists_congr fun o=>and_congr_right fun _=> ?_;cases o<;>simp[zmq,XE.drop0,h]
 have N:¬sol (R.drop0 i (.own (w+1) t z [])) i:=fun hs=>by obtain⟨o,ho,hs⟩:=hs;simp only[XE.drop0] at ho;rw[zu1 li] at ho;obtain rfl:=zuG ho;simp[zmq,XE.drop0] at hs
 have X:Ex2 B R (R.drop0 i (.own (w+1) t z [])):=by
  refine⟨by simp[XE.drop0],zuL _,fun j hj k v ew=> ?_,fun _ _ _=>rfl,fun _ h=>h,fun j hs=> ?_,fun j hj hn=>by simp only[XE.drop0];exact zuR (by rintro rfl;exact hn hB)⟩
  ·by_cases hij:i=j
   ·subst hij;simp only[XE.drop0] at ew;rw[QN li] at ew;simp only[tgO,zuE,zuH] at ew;obtain⟨rfl,rfl⟩:=ew;exact⟨w,by rw[JB e];rfl,by omega,by omega⟩
   ·have hS:=S j hij;simp only[XE.drop0] at ew⊢;rw[zj3 hij] at ew;exact⟨v,ew,zuL _,fun _=>⟨by first|rfl|trivial,hS⟩⟩
  ·by_cases hij:i=j
   ·subst hij;exact(N hs).elim
   ·exact .inl ⟨(S j hij).1 hs,rfl⟩
 refine⟨X,⟨fun j o ho=> ?_,fun a b ha hb hab=> ?_,fun j hj=>H.fz j hj⟩,N⟩
 ·by_cases hij:i=j
  ·subst hij;simp only[XE.drop0] at ho;rw[zu1 li] at ho;obtain rfl:=zuG ho;exact .inl ⟨rfl,fun h=>h.2 rfl⟩
  ·have ho':R.g[j]? =some o:=by
    simp only[XE.drop0] at ho
    rwa [zuR hij] at ho
   exact RO.mono H X ho' (by simp[XE.drop0,hij]) (fun _=>rfl) (fun _=>rfl) (fun _ h=>h) (H.ob j o ho')
 ·have ha':i≠a:=by rintro rfl;exact N ha
  have hb':i≠b:=by rintro rfl;exact N hb
  exact H.inj a b ((S a ha').1 ha) ((S b hb').1 hb) hab
mutual
def lvV(m:Nat):XV→Prop
 | .v _=>True
 | .ptr i _ _=>i<m
 | .sl i _ _ _=>i<m
 | .lst _ _ _ cs=>zw m cs
 | .lp cs _=>zw m cs
 | .cl i=>i<m
 | .nl=>True
def zw(m:Nat):List XV→Prop
 |[]=>True
 |a::r=>lvV m a∧zw m r
end
mutual
def lvF(m:Nat):XF→Prop
 | .s a=>lvV m a
 | .agg l=>zw m l
 | .tup l=>ZP m l
def ZP(m:Nat):List XF→Prop
 |[]=>True
 |a::r=>lvF m a∧ZP m r
end
def lvO(m:Nat):XO→Prop
 | .own _ _ _ cs=>zw m cs
 | .dead=>True
 | .clo _ a b=>ZP m a∧ZP m b
def XE.cut(R:XE)(m:Nat):XE:=⟨R.φ,R.g.take m,R.h,R.z,R.e⟩
theorem zaE{R:XE}{m i:Nat}:sol (R.cut m) i↔i<m∧sol R i:=by
 have e:(R.cut m).g[i]? =if i<m then R.g[i]? else none:=zvh
 unfold sol;rw[e];by_cases h:i<m
 ·simp only[zuO h,h,true_and];rfl
 ·simp[h]
theorem zcM{g:XH}{m i:Nat}:tg (g.take m) i=if i<m then tg g i else none:=by unfold tg;rw[zvh];split<;>rfl
mutual
theorem RV.cut{R:XE}{m:Nat}(hm:m≤R.g.length):∀(a:XV) (b:SV),lvV m a→RV R a b→RV (R.cut m) a b
 | .v a,b,_,r=>by simp only[RV] at r⊢;exact r
 | .ptr i w o,b,l,r=>by
   simp only[lvV] at l;simp only[RV,XE.cut,zcM,zuO l,zu0] at r⊢;exact⟨by omega,r.2⟩
 | .sl i w o n,b,l,r=>by
   simp only[lvV] at l;have hs:sol (R.cut m) i↔sol R i:=by rw[zaE];exact and_iff_right l
   simp only[RV,hs] at r⊢;simp only[XE.cut,zcM,zuO l,zu0];exact⟨by omega,r.2⟩
 | .lst t z n cs,b,l,r=>by
   simp only[lvV] at l;simp only[RV] at r⊢;rcases r with r|⟨j,p,o,vs,r1,r2,r3,r4,r5,r6⟩
   ·exact .inl r
   ·exact .inr ⟨j,p,o,vs,r1,r2,r3,r4,r5,RVs.cut hm cs _ l r6⟩
 | .lp cs o,b,l,r=>by
   simp only[lvV] at l;simp only[RV] at r⊢;obtain⟨j,q,t,vs,r1,r2,r3,r4,r5⟩:=r;exact⟨j,q,t,vs,r1,r2,r3,r4,RVs.cut hm cs _ l r5⟩
 | .cl i,b,l,r=>by
   simp only[lvV] at l;simp only[RV,XE.cut,zcM,zuO l,zu0] at r⊢;exact⟨by omega,r.2⟩
 | .nl,b,_,r=>by simp only[RV] at r⊢;exact r
theorem RVs.cut{R:XE}{m:Nat}(hm:m≤R.g.length):∀(a:List XV) (b:List SV),zw m a→RVs R a b→RVs (R.cut m) a b
 |[],[],_,_=>by simp[RVs]
 |a::r,b::s,l,h=>by
  simp only[zw] at l;simp only[RVs] at h⊢;exact⟨RV.cut hm a b l.1 h.1,RVs.cut hm r s l.2 h.2⟩
 |[],_::_,_,h=>by simp[RVs] at h
 |_::_,[],_,h=>by simp[RVs] at h
end
mutual
theorem RF.cut{R:XE}{m:Nat}(hm:m≤R.g.length):∀(a:XF) (b:FV),lvF m a→RF R a b→RF (R.cut m) a b
 | .s a,.s b,l,h=>by simp only[RF,lvF] at l h⊢;exact RV.cut hm a b l h
 | .agg a,.agg b,l,h=>by simp only[RF,lvF] at l h⊢;exact RVs.cut hm a b l h
 | .tup a,.tup b,l,h=>by simp only[RF,lvF] at l h⊢;exact RFs.cut hm a b l h
 | .s _,.agg _,_,h=>by simp[RF] at h
 | .s _,.tup _,_,h=>by simp[RF] at h
 | .agg _,.s _,_,h=>by simp[RF] at h
 | .agg _,.tup _,_,h=>by simp[RF] at h
 | .tup _,.s _,_,h=>by simp[RF] at h
 | .tup _,.agg _,_,h=>by simp[RF] at h
theorem RFs.cut{R:XE}{m:Nat}(hm:m≤R.g.length):∀(a:List XF) (b:List FV),ZP m a→RFs R a b→RFs (R.cut m) a b
 |[],[],_,_=>by simp[RFs]
 |a::r,b::s,l,h=>by
  simp only[ZP] at l;simp only[RFs] at h⊢;exact⟨RF.cut hm a b l.1 h.1,RFs.cut hm r s l.2 h.2⟩
 |[],_::_,_,h=>by simp[RFs] at h
 |_::_,[],_,h=>by simp[RFs] at h
end
mutual
theorem RV.lt{R:XE}:∀(a:XV) (b:SV),RV R a b→lvV R.g.length a
 | .v a,b,_=>by simp[lvV]
 | .ptr i w o,b,r=>by simp only[RV] at r;simp only[lvV];exact r.1
 | .sl i w o n,b,r=>by simp only[RV] at r;simp only[lvV];exact r.1
 | .lst t z n cs,b,r=>by
   simp only[RV] at r;simp only[lvV];rcases r with⟨_,rfl,_⟩|⟨j,p,o,vs,r1,r2,r3,r4,r5,r6⟩
   ·simp[zw]
   ·exact RVs.lt cs _ r6
 | .lp cs o,b,r=>by
   simp only[RV] at r;simp only[lvV];obtain⟨j,q,t,vs,r1,r2,r3,r4,r5⟩:=r;exact RVs.lt cs _ r5
 | .cl i,b,r=>by simp only[RV] at r;simp only[lvV];exact r.1
 | .nl,b,_=>by simp[lvV]
theorem RVs.lt{R:XE}:∀(a:List XV) (b:List SV),RVs R a b→zw R.g.length a
 |[],[],_=>by simp[zw]
 |a::r,b::s,h=>by
  simp only[RVs] at h;simp only[zw];exact⟨RV.lt a b h.1,RVs.lt r s h.2⟩
 |[],_::_,h=>by simp[RVs] at h
 |_::_,[],h=>by simp[RVs] at h
end
mutual
theorem RF.lt{R:XE}:∀(a:XF) (b:FV),RF R a b→lvF R.g.length a
 | .s a,.s b,h=>by simp only[RF,lvF] at h⊢;exact RV.lt a b h
 | .agg a,.agg b,h=>by simp only[RF,lvF] at h⊢;exact RVs.lt a b h
 | .tup a,.tup b,h=>by simp only[RF,lvF] at h⊢;exact RFs.lt a b h
 | .s _,.agg _,h=>by simp[RF] at h
 | .s _,.tup _,h=>by simp[RF] at h
 | .agg _,.s _,h=>by simp[RF] at h
 | .agg _,.tup _,h=>by simp[RF] at h
 | .tup _,.s _,h=>by simp[RF] at h
 | .tup _,.agg _,h=>by simp[RF] at h
theorem RFs.lt{R:XE}:∀(a:List XF) (b:List FV),RFs R a b→ZP R.g.length a
 |[],[],_=>by simp[ZP]
 |a::r,b::s,h=>by
  simp only[RFs] at h;simp only[ZP];exact⟨RF.lt a b h.1,RFs.lt r s h.2⟩
 |[],_::_,h=>by simp[RFs] at h
 |_::_,[],h=>by simp[RFs] at h
end
theorem RO.lt{R:XE}{i:Nat}:∀{o:XO},RO R i o→lvO R.g.length o
 | .own w t z cs,r=>by
   rcases r with⟨rfl,_⟩|⟨_,vs,_,r⟩
   ·simp[lvO,zw]
   ·exact RVs.lt _ _ r
 | .dead,_=>trivial
 | .clo f a b,⟨_,a',b',_,r1,r2⟩=>⟨RFs.lt _ _ r1,RFs.lt _ _ r2⟩
theorem zsW{B:Nat→Prop}{R R':XE}{m:Nat}(x:Ex2 B R R')(h1:R.g.length≤m)(h2:m≤R'.g.length):Ex2 B R (R'.cut m):=by refine⟨by simp only[XE.cut,zu0];omega,x.lh,fun i hi k w e=> ?_,x.same,x.z,fun i hs=>x.new i (zaE.1 hs).2,fun i hi hn=>by simp only[XE.cut];rw[zvh,zuO (by omega)];exact x.gs i hi hn⟩;simp only[XE.cut,zcM] at e;rw[zuO (by omega)] at e;obtain⟨w0,a,b,c⟩:=x.vr i hi k w e;refine⟨w0,a,b,fun h=>⟨(c h).1,?_⟩⟩;rw[zaE];exact(and_iff_right (by omega)).trans (c h).2
theorem zsX{R:XE}{m:Nat}(H:HR R)(hm:m≤R.g.length)(hl:∀i o,i<m→R.g[i]? =some o→lvO m o):HR (R.cut m):=by
 refine⟨fun i o ho=> ?_,fun a b ha hb=>H.inj a b (zaE.1 ha).2 (zaE.1 hb).2,H.fz⟩;have hi:i<m:=by have:=(zuJ.1 ho).1;simp only[XE.cut,zu0] at this;omega
 have ho':R.g[i]? =some o:=by
  simp only[XE.cut] at ho
  rwa [zvh,zuO hi] at ho
 have l:=hl i o hi ho';have r:=H.ob i o ho';cases o with
 |dead=>trivial
 |own w t z cs=>
  rcases r with r|⟨r1,vs,r2,r3⟩
  ·exact .inl r
  ·exact .inr ⟨r1,vs,r2,RVs.cut hm _ _ l r3⟩
 |clo f a b=>
  obtain⟨r1,a',b',r2,r3,r4⟩:=r;exact⟨r1,a',b',r2,RFs.cut hm _ _ l.1 r3,RFs.cut hm _ _ l.2 r4⟩
mutual
theorem lvV.mono{m m':Nat}(hm:m≤m'):∀(a:XV),lvV m a→lvV m' a
 | .v _,_=>by simp[lvV]
 | .ptr i _ _,h=>by simp only[lvV] at h⊢;omega
 | .sl i _ _ _,h=>by simp only[lvV] at h⊢;omega
 | .lst _ _ _ cs,h=>by simp only[lvV] at h⊢;exact zw.mono hm cs h
 | .lp cs _,h=>by simp only[lvV] at h⊢;exact zw.mono hm cs h
 | .cl i,h=>by simp only[lvV] at h⊢;omega
 | .nl,_=>by simp[lvV]
theorem zw.mono{m m':Nat}(hm:m≤m'):∀(a:List XV),zw m a→zw m' a
 |[],_=>by simp[zw]
 |a::r,h=>by simp only[zw] at h⊢;exact⟨lvV.mono hm a h.1,zw.mono hm r h.2⟩
end
def Zn:XFr→Nat→Option XF
 |[],_=>none
 |(m,v)::r,n=>if n=m then v else Zn r n
def jT(fr:XFr)(d:Option Nat)(v:Option XF):XFr:=
 match d with
 |some n=>(n,v)::fr
 |none=>fr
def yS(keep:List Nat)(fr:XFr):XFr:=keep.map fun n=>(n,Zn fr n)
def cX:FV→Option XF
 | .s a=>if nlS a then some (.s (.v a)) else none
 | .agg l=>if l.all nlS then some (.agg (l.map .v)) else none
 | .tup _=>none
def odX(fr:XFr):OD→Option XF
 | .t n=>Zn fr n
 | .c v=>cX v
def unV:XV→SV
 | .v a=>a
 |_=> .nili
def odA(fr:XFr)(x:OD):Option SV:=
 match odX fr x with
 |some (.s (.v a))=>some a
 |_=>none
def zdW(fr:XFr):List OD→Option (List XF)
 |[]=>some []
 |x::r=>
  match odX fr x with
  |some v=>(zdW fr r).map (v:: ·)
  |none=>none
def zl5(fr:XFr):List OD→Option (List SV)
 |[]=>some []
 |x::r=>
  match odA fr x with
  |some v=>(zl5 fr r).map (v:: ·)
  |none=>none
def fcX:XF→Option (List XV)
 | .s v=>some [v]
 | .agg l=>some l
 | .tup _=>none
def zdm(fr:XFr):List XV→List (Nat×Nat×OD)→Option (List XV)
 |cs,[]=>some cs
 |cs,(o,n,x)::r=>
  match(odX fr x).bind fcX with
  |some l=>if l.length=n then if o+n≤cs.length then zdm fr (setX cs o l) r else none else none
  |none=>none
def qC(fr:XFr)(d:Nat):Option OD→Option Nat
 |none=>some d
 |some x=>
  match odA fr x with
  |some (.int _ n)=>if 0≤n then some n.toNat else none
  |_=>none
def zL(g:XH)(i w:Nat):Option (Nat×Nat×List XV):=
 match g[i]? with
 |some (.own w' t z cs)=>if w'=w then some (t,z,cs) else none
 |_=>none
def zbr(cs:List XV)(o m z:Nat):List XV:=if o=0∧m*z=cs.length then cs else(cs.drop (o*z)).take (m*z)
theorem zaD{cs:List XV}{o m z:Nat}:zbr cs o m z=(cs.drop (o*z)).take (m*z):=by
 unfold zbr;split
 ·rename_i h;rw[h.1,h.2,zvP,zu8,zve]
 ·rfl
def elX(g:XH)(t z:Nat):XF→Option (Nat×List XV)
 | .s (.v .nils)=>some (0,[])
 | .s .nl=>some (0,[])
 | .s (.lst t' z' n cs)=>if n=0 then some (0,[]) else if t'=t∧z'=z then some (n,cs) else none
 | .s (.sl i w o n)=>
   match zL g i w with
   |some (t',z',cs)=>if t'=t∧z'=z then if(o+n)*z≤cs.length then some (n,zbr cs o n z) else none else none
   |none=>none
 |_=>none
def Yj(g:XH)(i w:Nat):Bool:=match zL g i w with
 |some _=>true
 |none=>false
def Y6(g:XH):XF→Option Nat
 | .s (.v .nils)=>some 0
 | .s .nl=>some 0
 | .s (.lst _ _ n _)=>some n
 | .s (.sl _ _ _ n)=>some n
 |_=>none
def jX(g:XH)(t z:Nat)(k:Int):XF→Option XV
 | .s (.sl j w o n)=>
   match zL g j w with
   |some (t',z',_)=>if t'=t∧z'=z then if 0≤k then if k<n then some (.ptr j w ((o+k.toNat)*z)) else none else none else none
   |none=>none
 | .s (.lst t' z' n cs)=>if t'=t∧z'=z then if 0≤k then if k<n then some (.lp cs (k.toNat*z)) else none else none else none
 |_=>none
def rdX(g:XH):XF→Option (List XV×Nat)
 | .s (.ptr i w o)=>
   match zL g i w with
   |some (_,_,cs)=>some (cs,o)
   |none=>none
 | .s (.lp cs o)=>some (cs,o)
 |_=>none
def ldC(agg:Bool)(n:Nat)(cs:List XV)(o:Nat):Option XF:=
 if agg then if o+n≤cs.length∧n≠0 then some (.agg ((cs.drop o).take n)) else none
 else match cs[o]? with
  |some v=>some (.s v)
  |none=>none
def zbo:List XV→Option (List UInt8)
 |[]=>some []
 | .v (.int .u8 n)::r=>(zbo r).map (UInt8.ofNat n.toNat:: ·)
 |_=>none
def zni(g:XH)(t z:Nat)(x:XF)(m:Nat):Option (XF×XH):=
 match x with
 | .s (.v .nils)=>if m=0 then some (x,g) else none
 | .s .nl=>if m=0 then some (x,g) else none
 | .s (.sl i w o n)=>
   match zL g i w with
   |some (t',z',cs)=>if t'=t∧z'=z∧o=0∧m≤n∧n*z≤cs.length∧(m=0∨m*z≠0) then some (.s (.sl i (w+1) 0 m),g.set i (.own (w+1) t z (cs.take (m*z)))) else none
   |none=>none
 |_=>none
def zco(g:XH)(t z y:Nat)(x:XF)(n:Nat)(new:List XV):Option (XF×XH):=
 if n=0 then
  match x with
  | .s (.v .nils)=>some (x,g)
  | .s .nl=>some (x,g)
  | .s (.lst _ _ _ _)=>some (x,g)
  | .s (.sl i w o m)=>if Yj g i w then some (x,g) else none
  |_=>none
 else if new.length=0 then none else
  match x with
  | .s (.v .nils)=>if n*y≤140737488355328 then some (.s (.sl g.length 0 0 n),g++[.own 0 t z new]) else none
  | .s .nl=>if n*y≤140737488355328 then some (.s (.sl g.length 0 0 n),g++[.own 0 t z new]) else none
  | .s (.sl i w o m)=>
    match zL g i w with
    |some (t',z',cs)=>if t'=t∧z'=z∧(o+m)*z≤cs.length∧(m+n)*y≤140737488355328 then some (.s (.sl i (w+1) 0 (m+n)),g.set i (.own (w+1) t z (zbr cs o m z++new))) else none
    |none=>none
  |_=>none
def opX(fr:XFr)(g:XH):EO→Option (XF×XH)
 | .mov x=>(odX fr x).map (·,g)
 | .nilc x=>
   match odX fr x with
   |some (.s (.ptr i w o))=>if Yj g i w then some (.s (.ptr i w o),g) else none
   |some (.s (.lp cs o))=>some (.s (.lp cs o),g)
   |_=>none
 | .nilf x=>
   match odX fr x with
   |some (.s (.cl i))=>
    match g[i]? with
    |some (.clo _ _ _)=>some (.s (.cl i),g)
    |_=>none
   |some (.s (.v (.fn f)))=>some (.s (.v (.fn f)),g)
   |_=>none
 | .pick c a b=>
   match odA fr c,odX fr a,odX fr b with
   |some (.bool t),some x,some y=>some (if t then x else y,g)
   |_,_,_=>none
 | .load agg n a=>
   match(odX fr a).bind (rdX g) with
   |some (cs,o)=>(ldC agg n cs o).map (·,g)
   |none=>none
 | .store n a x=>
   match odX fr a,(odX fr x).bind fcX with
   |some (.s (.ptr i w o)),some l=>
    match zL g i w with
    |some (t,z,cs)=>if l.length=n then if o+n≤cs.length then if cs.length=0 then none else some (.tup [],g.set i (.own w t z (setX cs o l))) else none else none
    |none=>none
   |_,_=>none
 | .new t n x=>
   match(odX fr x).bind fcX with
   |some l=>if l.length=n then if n=0 then none else some (.s (.ptr g.length 0 0),g++[.own 0 t n l]) else none
   |none=>none
 | .build zero parts=>if zero.all nlS then(zdm fr (zero.map .v) parts).map (.agg ·,g) else none
 | .bsl t n zero parts=>if zero.all nlS then(zdm fr ((rep n zero).map .v) parts).map fun l=>(.s (.sl g.length 0 0 n),g++[.own 0 t zero.length l]) else none
 | .bin op x y=>
   match odA fr x,odA fr y with
   |some a,some b=>(zcW op a b).map fun v=>(.s (.v v),g)
   |_,_=>none
 | .eqb neq x y=>
   match odA fr x,odA fr y with
   |some (.bool a),some (.bool b)=>some (.s (.v (.bool (if neq then !(a==b) else a==b))),g)
   |_,_=>none
 | .eqp neq x y=>
   match odX fr x,odX fr y with
   |some (.s (.v .nilp)),some (.s (.v .nilp))=>some (.s (.v (.bool (if neq then false else true))),g)
   |some (.s (.ptr i w _)),some (.s (.v .nilp))=>if Yj g i w then some (.s (.v (.bool neq)),g) else none
   |some (.s (.lp _ _)),some (.s (.v .nilp))=>some (.s (.v (.bool neq)),g)
   |some (.s (.v .nilp)),some (.s (.ptr i w _))=>if Yj g i w then some (.s (.v (.bool neq)),g) else none
   |_,_=>none
 | .eqs neq offs x y=>
   match odX fr x,odX fr y with
   |some (.agg xs),some (.agg ys)=>(jV (xs.map unV) (ys.map unV) offs).map fun b=>(.s (.v (.bool (if neq then !b else b))),g)
   |_,_=>none
 | .un op x=>
   match odA fr x with
   |some a=>(unE op a).map fun v=>(.s (.v v),g)
   |none=>none
 | .toi k x=>
   match odA fr x with
   |some (.int _ n)=>some (.s (.v (.int k (k.wrap n))),g)
   |_=>none
 | .itof k x=>
   match odA fr x with
   |some (.int _ n)=>some (.s (.v (.flt k (k.nearest n))),g)
   |_=>none
 | .b2s t x=>
   match(odX fr x).bind (elX g t 1) with
   |some (_,cs)=>(zbo cs).map fun l=>(.s (.v (.str ⟨l.toArray⟩)),g)
   |none=>none
 | .mkf f first caps=>
   match zdW fr first,zdW fr caps with
   |some a,some b=>if a.all (fun x=>(fcX x).isSome)&&b.all (fun x=>(fcX x).isSome) then some (.s (.cl g.length),g++[.clo f a b]) else none
   |_,_=>none
 | .sli t z x lo hi=>
   match odX fr x with
   |some (.s (.v .nils))=>
    match qC fr 0 lo,qC fr 0 hi with
    |some 0,some 0=>some (.s (.v .nils),g)
    |_,_=>none
   |some (.s (.sl i w o n))=>
    match qC fr 0 lo,qC fr n hi,zL g i w with
    |some l,some u,some (t',_,cs)=>if t'=t then if l≤u then if u≤n then if cs.length=0 then none else some (.s (.sl i w (o+l) (u-l)),g) else none else none else none
    |_,_,_=>none
   |some (.s (.lst t' z' n cs))=>
    match qC fr 0 lo,qC fr n hi with
    |some l,some u=>if n=0 then none else if t'=t∧z'=z then if l≤u then if u≤n then some (.s (.lst t z (u-l) ((cs.drop (l*z)).take ((u-l)*z))),g) else none else none else none
    |_,_=>none
   |_=>none
 | .subs x lo hi=>
   match odA fr x with
   |some (.str s)=>
    match qC fr 0 lo,qC fr s.size hi with
    |some l,some u=>if l≤u then if u≤s.size then some (.s (.v (.str (s.extract l u))),g) else none else none
    |_,_=>none
   |_=>none
 | .sli0 x=>
   match odX fr x with
   |some (.s (.v .nils))=>some (.s (.v .nils),g)
   |some (.s (.sl i w o n))=>if Yj g i w then some (.s .nl,g) else none
   |some (.s .nl)=>some (.s .nl,g)
   |some (.s (.lst _ _ _ _))=>some (.s .nl,g)
   |_=>none
 | .fad off x=>
   match odX fr x with
   |some (.s (.ptr i w o))=>if Yj g i w then some (.s (.ptr i w (o+off)),g) else none
   |some (.s (.lp cs o))=>some (.s (.lp cs (o+off)),g)
   |_=>none
 | .fld agg off n x=>
   match odX fr x with
   |some (.agg l)=>
    if agg then if off+n≤l.length then some (.agg ((l.drop off).take n),g) else none
    else match l[off]? with
     |some v=>some (.s v,g)
     |none=>none
   |_=>none
 | .iad t z x i=>
   match odA fr i with
   |some (.int _ k)=>((odX fr x).bind (jX g t z k)).map fun p=>(.s p,g)
   |_=>none
 | .idx x i=>
   match odA fr x,odA fr i with
   |some (.str s),some (.int _ k)=>
    if 0≤k then match s.data.toList[k.toNat]? with
     |some b=>some (.s (.v (.int .u8 b.toNat)),g)
     |none=>none
    else none
   |_,_=>none
 | .ext x i=>
   match odX fr x with
   |some (.tup l)=>
    match l[i]? with
    |some v=>some (v,g)
    |none=>none
   |_=>none
 | .len x=>
   match(odX fr x).bind (Y6 g) with
   |some n=>some (.s (.v (.int .i64 n)),g)
   |none=>none
 | .slen x=>
   match odA fr x with
   |some (.str s)=>some (.s (.v (.int .i64 s.size)),g)
   |_=>none
 | .app t z y x y'=>
   match odX fr x,(odX fr y').bind (elX g t z) with
   |some v,some (n,new)=>zco g t z y v n new
   |_,_=>none
 | .apps t y x s=>
   match odX fr x,odA fr s with
   |some v,some (.str b)=>zco g t 1 y v b.size ((yP b).map .v)
   |_,_=>none
 | .cut t z x k=>
   match odX fr x,odA fr k with
   |some v,some (.int _ m)=>if 0≤m then zni g t z v m.toNat else none
   |_,_=>none
 | .iaa n z x i=>
   match odX fr x,odA fr i with
   |some (.s (.ptr j w o)),some (.int _ k)=>if 0≤k then if k<(n:Int) then if Yj g j w then some (.s (.ptr j w (o+k.toNat*z)),g) else none else none else none
   |_,_=>none
 | .copy t z x y=>
   match odX fr x,(odX fr y).bind (elX g t z) with
   |some (.s (.sl i w o m)),some (n,new)=>
    match zL g i w with
    |some (t',z',cs)=>if t'=t∧z'=z∧(o+m)*z≤cs.length∧cs.length≠0 then some (.s (.v (.int .i64 (min n m:Nat))),g.set i (.own w t z (setX cs (o*z) (new.take (min n m*z))))) else none
    |none=>none
   |_,_=>none
 | .clr t zero x=>
   match odX fr x with
   |some (.s (.v .nils))=>some (.tup [],g)
   |some (.s (.sl i w o n))=>
    match zL g i w with
    |some (t',z',cs)=>if zero.all nlS∧t'=t∧z'=zero.length∧(o+n)*zero.length≤cs.length∧cs.length≠0 then some (.tup [],g.set i (.own w t z' (setX cs (o*zero.length) ((rep n zero).map .v)))) else none
    |none=>none
   |_=>none
 | .mn x l=>
   match odA fr x,zl5 fr l with
   |some (.int k a),some vs=>(zbJ k a vs).map fun v=>(.s (.v v),g)
   |_,_=>none
 | .mx x l=>
   match odA fr x,zl5 fr l with
   |some (.int k a),some vs=>(zbH k a vs).map fun v=>(.s (.v v),g)
   |_,_=>none
 | .re x=>
   match odA fr x with
   |some (.cpl k a _)=>some (.s (.v (.flt k a)),g)
   |_=>none
 | .im x=>
   match odA fr x with
   |some (.cpl k _ b)=>some (.s (.v (.flt k b)),g)
   |_=>none
 | .cplx x y=>
   match odA fr x,odA fr y with
   |some (.flt .f64 a),some (.flt .f64 b)=>some (.s (.v (.cpl .f64 a b)),g)
   |_,_=>none
 | .s2b t x=>
   match odA fr x with
   |some (.str s)=>some (.s (.sl g.length 0 0 s.size),g++[.own 0 t 1 ((yP s).map .v)])
   |_=>none
 | .mks t y zero l=>
   match odA fr l with
   |some (.int .i64 n)=>if 0≤n then if n.toNat*y≤140737488355328 then if zero.all nlS then some (.s (.sl g.length 0 0 n.toNat),g++[.own 0 t zero.length ((rep n.toNat zero).map .v)]) else none else none else none
   |_=>none
 |_=>none
def wrX(fr:XFr)(g:XH):EO→Option Nat
 | .store _ a _=>
   match odX fr a with
   |some (.s (.ptr i _ _))=>some i
   |_=>none
 | .app t z _ x y=>
   match odX fr x,(odX fr y).bind (elX g t z) with
   |some (.s (.sl i _ _ _)),some (n,_)=>if n=0 then none else some i
   |_,_=>none
 | .apps _ _ x s=>
   match odX fr x,odA fr s with
   |some (.s (.sl i _ _ _)),some (.str b)=>if b.size=0 then none else some i
   |_,_=>none
 | .cut _ _ x _=>
   match odX fr x with
   |some (.s (.sl i _ _ _))=>some i
   |_=>none
 | .copy _ _ x _=>
   match odX fr x with
   |some (.s (.sl i _ _ _))=>some i
   |_=>none
 | .clr _ _ x=>
   match odX fr x with
   |some (.s (.sl i _ _ _))=>some i
   |_=>none
 |_=>none
def RFr(R:XE):XFr→Fr→Prop
 |[],[]=>True
 |(m,some v)::r,(m',some v')::s=>m=m'∧RF R v v'∧RFr R r s
 |(m,none)::r,(m',none)::s=>m=m'∧RFr R r s
 |_,_=>False
theorem RFr.get{R:XE}{n:Nat}:∀{a:XFr} {b:Fr},RFr R a b→(∀x,Zn a n=some x→∃y,yq b n=some y∧RF R x y)∧(Zn a n=none→yq b n=none)
 |[],[],_=>⟨fun x h=>by simp[Zn] at h,fun _=>rfl⟩
 |(m,some v)::r,(m',some v')::s,h=>by
  simp only[RFr] at h;obtain⟨rfl,h2,h3⟩:=h;by_cases e:n=m
  ·simp only[Zn,yq,zuO e];exact⟨fun x hx=>⟨v',rfl,by cases hx;exact h2⟩,fun hx=>by cases hx⟩
  ·simp only[Zn,yq,zuQ e];exact RFr.get h3
 |(m,none)::r,(m',none)::s,h=>by
  simp only[RFr] at h;obtain⟨rfl,h3⟩:=h;by_cases e:n=m
  ·simp only[Zn,yq,zuO e];exact⟨fun x hx=>by simp at hx,fun _=>trivial⟩
  ·simp only[Zn,yq,zuQ e];exact RFr.get h3
 |[],_::_,h=>by simp[RFr] at h
 |(_,some _)::_,[],h=>by simp[RFr] at h
 |(_,none)::_,[],h=>by simp[RFr] at h
 |(_,some _)::_,(_,none)::_,h=>by simp[RFr] at h
 |(_,none)::_,(_,some _)::_,h=>by simp[RFr] at h
theorem RFr.mono{B:Nat→Prop}{R R':XE}(H:HR R)(x:Ex2 B R R'):∀{a:XFr} {b:Fr},RFr R a b→RFr R' a b
 |[],[],_=>by simp[RFr]
 |(m,some v)::r,(m',some v')::s,h=>by
  simp only[RFr] at h⊢;exact⟨h.1,RF.mono H x _ _ h.2.1,RFr.mono H x h.2.2⟩
 |(m,none)::r,(m',none)::s,h=>by
  simp only[RFr] at h⊢;exact⟨h.1,RFr.mono H x h.2⟩
 |[],_::_,h=>by simp[RFr] at h
 |(_,some _)::_,[],h=>by simp[RFr] at h
 |(_,none)::_,[],h=>by simp[RFr] at h
 |(_,some _)::_,(_,none)::_,h=>by simp[RFr] at h
 |(_,none)::_,(_,some _)::_,h=>by simp[RFr] at h
theorem RFr.put{R:XE}{a:XFr}{b:Fr}(h:RFr R a b)(d:Option Nat){v:XF}{v':FV}(hv:RF R v v'):RFr R (jT a d (some v)) (qx b d (some v')):=by
 cases d with
 |none=>exact h
 |some n=>simp only[jT,qx,RFr];exact⟨trivial,hv,h⟩
theorem RFr.keep{R:XE}{a:XFr}{b:Fr}(h:RFr R a b):∀(k:List Nat),RFr R (yS k a) (zl k b)
 |[]=>by simp[yS,zl,RFr]
 |n::k=>by
  have ih:=RFr.keep h k;have hn:=h.get (n:=n);simp only[yS,zl,zu2] at ih⊢;cases e:Zn a n with
  |none=>rw[hn.2 e];simp only[RFr];exact⟨trivial,ih⟩
  |some x=>
   obtain⟨y,e2,r⟩:=hn.1 x e;rw[e2];simp only[RFr];exact⟨trivial,r,ih⟩
section
variable {R:XE} {a:XFr} {b:Fr}
theorem RFr.od(h:RFr R a b){x:OD}{v:XF}(e:odX a x=some v):∃v',odE b x=some v'∧RF R v v':=by
 cases x with
 |t n=>exact h.get.1 v e
 |c w=>
  refine⟨w,rfl,?_⟩;cases w with
  |s s=>
   simp only[odX,cX] at e;split at e
   ·rename_i hn;obtain rfl:=zuG e;simp only[RF,RV];exact⟨trivial,hn⟩
   ·cases e
  |agg l=>
   simp only[odX,cX] at e;split at e
   ·rename_i hn;obtain rfl:=zuG e;simp only[RF];exact RVs.v (by simpa using hn)
   ·cases e
  |tup l=>simp[odX,cX] at e
theorem RFr.odv(h:RFr R a b){x:OD}{v:XV}(e:odX a x=some (.s v)):∃v',odE b x=some (.s v')∧odS b x=some v'∧RV R v v':=by
 obtain⟨y,h1,h2⟩:=h.od e;cases y with
 |s y=>simp only[RF] at h2;exact⟨y,h1,by unfold odS;rw[h1],h2⟩
 |agg l=>simp[RF] at h2
 |tup l=>simp[RF] at h2
theorem RFr.odg(h:RFr R a b){x:OD}{l:List XV}(e:odX a x=some (.agg l)):∃l',odE b x=some (.agg l')∧RVs R l l':=by
 obtain⟨y,h1,h2⟩:=h.od e;cases y with
 |s y=>simp[RF] at h2
 |agg l=>simp only[RF] at h2;exact⟨l,h1,h2⟩
 |tup l=>simp[RF] at h2
theorem odA_X{a:XFr}{x:OD}{s:SV}(e:odA a x=some s):odX a x=some (.s (.v s)):=by
 unfold odA at e;split at e
 ·rename_i s' e';obtain rfl:=zuG e;exact e'
 ·cases e
theorem RFr.oda(h:RFr R a b){x:OD}{s:SV}(e:odA a x=some s):odS b x=some s∧nlS s=true:=by obtain⟨v',_,h2,h3⟩:=h.odv (odA_X e);simp only[RV] at h3;exact⟨h3.1▸h2,h3.2⟩
theorem RFr.odl(h:RFr R a b):∀{l:List OD} {vs:List XF},zdW a l=some vs→∃vs',odL b l=some vs'∧RFs R vs vs'
 |[],vs,e=>by
  simp only[zdW,zuE] at e;subst e;exact⟨[],rfl,by simp[RFs]⟩
 |x::l,vs,e=>by
  simp only[zdW] at e;split at e
  ·rename_i v ev;obtain⟨r,er,rfl⟩:=zuI.1 e;obtain⟨v',h1,h2⟩:=h.od ev;obtain⟨r',h3,h4⟩:=RFr.odl h er;exact⟨v'::r',by simp only[odL,h1,h3];rfl,by simp only[RFs];exact⟨h2,h4⟩⟩
  ·cases e
theorem RFr.odla(h:RFr R a b):∀{l:List OD} {vs:List SV},zl5 a l=some vs→zcq b l=some vs
 |[],vs,e=>e
 |x::l,vs,e=>by
  simp only[zl5] at e;split at e
  ·rename_i v ev;obtain⟨r,er,rfl⟩:=zuI.1 e;simp only[zcq,(h.oda ev).1,RFr.odla h er];rfl
  ·cases e
theorem RFr.cells(h:RFr R a b){x:OD}{l:List XV}(e:(odX a x).bind fcX=some l):∃l',(odE b x).bind jI=some l'∧RVs R l l':=by
 obtain⟨v,e1,e2⟩:=zuU.1 e;obtain⟨v',h1,h2⟩:=h.od e1;cases v with
 |tup l=>simp[fcX] at e2
 |s v=>
  simp only[fcX,zuE] at e2;subst e2;cases v' with
  |s v'=>simp only[RF] at h2;exact⟨[v'],by rw[h1];rfl,by simp only[RVs];exact⟨h2,trivial⟩⟩
  |agg l=>simp[RF] at h2
  |tup l=>simp[RF] at h2
 |agg l=>
  simp only[fcX,zuE] at e2;subst e2;cases v' with
  |s v'=>simp[RF] at h2
  |agg l'=>simp only[RF] at h2;exact⟨l',by rw[h1];rfl,h2⟩
  |tup l=>simp[RF] at h2
theorem RFr.fill(h:RFr R a b):∀{ps:List (Nat×Nat×OD)} {cs l:List XV} {vs:List SV},RVs R cs vs→zdm a cs ps=some l→∃l',ZK b vs ps=some l'∧RVs R l l'
 |[],cs,l,vs,hc,e=>by
  simp only[zdm,zuE] at e;subst e;exact⟨vs,rfl,hc⟩
 |(o,n,x)::ps,cs,l,vs,hc,e=>by
  simp only[zdm] at e;split at e
  ·rename_i m em;split at e
   ·rename_i h1;split at e
    ·rename_i h2;obtain⟨m',h3,h4⟩:=h.cells em;obtain⟨l',h5,h6⟩:=RFr.fill h (RVs.setX o h4 hc) e;refine⟨l',?_,h6⟩;simp only[ZK,h3];rw[zuO (by rw[←h4.len];exact h1),zuO (by rw[←hc.len];exact h2)];exact h5
    ·cases e
   ·cases e
  ·cases e
theorem RFr.bound(h:RFr R a b){d m:Nat}{x:Option OD}(e:qC a d x=some m):bound b d x=some m:=by
 cases x with
 |none=>exact e
 |some x=>
  unfold qC at e;unfold Ev.bound;simp only at e⊢;split at e
  ·rename_i k n en;rw[(h.oda en).1];exact e
  ·cases e
end
theorem ju{g:XH}{i w t z:Nat}{cs:List XV}(e:zL g i w=some (t,z,cs)):g[i]? =some (.own w t z cs)∧tg g i=some (false,w):=by
 unfold zL at e;split at e
 ·rename_i w' t' z' cs' h;split at e
  ·rename_i hw;subst hw;simp only[zuE,zuH] at e;obtain⟨rfl,rfl,rfl⟩:=e;exact⟨h,by rw[JB h];rfl⟩
  ·cases e
 ·cases e
theorem jG{g:XH}{i w:Nat}(e:Yj g i w=true):∃t z cs,zL g i w=some (t,z,cs):=by
 unfold Yj at e;split at e
 ·rename_i x h;exact⟨x.1,x.2.1,x.2.2,h⟩
 ·cases e
theorem RV.ptr{R:XE}{i w o:Nat}{b:SV}(r:RV R (.ptr i w o) b){x:Nat×Nat×List XV}(e:zL R.g i w=some x):b= .ptr (R.φ i) o:=by simp only[RV] at r;obtain⟨t,z,cs⟩:=x;exact r.2.2 (ju e).2
theorem HR.own{R:XE}(H:HR R){i w t z:Nat}{cs:List XV}(e:zL R.g i w=some (t,z,cs))(hc:sol R i):∃vs,R.h[R.φ i]? =some (.own t vs)∧RVs R cs vs∧¬R.z (R.φ i):=by
 have he:=(ju e).1;rcases H.ob i _ he with⟨h,h'⟩|⟨h1,vs,h2,h3⟩
 ·rw[ql he] at hc;exact absurd h (hc.resolve_right h')
 ·exact⟨vs,h2,h3,h1⟩
theorem zgQ{R:XE}{i w t z:Nat}{cs:List XV}(e:zL R.g i w=some (t,z,cs))(hc:cs≠[]):sol R i:=Zw (ju e).1 (.inl hc)
theorem YK{α:Type}{l:List α}(h:l.length≠0):l≠[]:=fun e=>h (by rw[e];rfl)
theorem RV.sl{R:XE}{i w o n:Nat}{b:SV}(r:RV R (.sl i w o n) b){t z:Nat}{cs:List XV}(e:zL R.g i w=some (t,z,cs)):(cs=[]∧¬sol R i∧n=0∧(b= .nils∨∃j p q,b= .sl0 j p q))∨(sol R i∧∃p,b= .sl (R.φ i) p o n):=by
 simp only[RV] at r;obtain⟨h1,h3⟩:=ju e;rcases r.2.2.2 h3 with⟨h4,h5,h6⟩|h4
 ·refine .inl ⟨Classical.byContradiction fun h=>h4 (Zw h1 (.inl h)),h4,h5,h6⟩
 ·exact .inr h4
theorem zhg{h:LH}{t z j p o n:Nat}{vs:List SV}(e:cellsOf h j=some (t,vs))(hl:(o+n)*z≤vs.length):j6 h t z (.sl j p o n)=some ((vs.drop (o*z)).take (n*z)):=by
 cases n with
 |zero=>simp[j6]
 |succ n=>
  unfold j6;simp only[e,if_true];rw[zuO hl]
theorem RF.el{R:XE}(H:HR R){t z n:Nat}{x:XF}{y:FV}{cs:List XV}(r:RF R x y)(e:elX R.g t z x=some (n,cs)):∃b vs,y= .s b∧zbE b=some n∧j6 R.h t z b=some vs∧RVs R cs vs:=by
 cases x with
 |agg l=>simp[elX] at e
 |tup l=>simp[elX] at e
 |s x=>
  cases y with
  |agg l=>simp[RF] at r
  |tup l=>simp[RF] at r
  |s b=>
   simp only[RF] at r;cases x with
   |ptr i w o=>simp[elX] at e
   |lp cs o=>simp[elX] at e
   |cl i=>simp[elX] at e
   |nl=>
    simp[elX] at e;obtain⟨rfl,rfl⟩:=e;simp only[RV] at r;rcases r with rfl|⟨i,p,o,rfl⟩
    ·exact⟨_,[],rfl,rfl,rfl,by simp[RVs]⟩
    ·exact⟨_,[],rfl,rfl,rfl,by simp[RVs]⟩
   |v s=>
    cases s<;>simp[elX] at e;obtain⟨rfl,rfl⟩:=e;simp only[RV] at r;obtain⟨rfl,_⟩:=r;exact⟨_,[],rfl,rfl,rfl,by simp[RVs]⟩
   |lst t' z' m cs'=>
    simp only[elX] at e;simp only[RV] at r;by_cases hm:m=0
    ·rw[zuO hm] at e;simp only[zuE,zuH] at e;obtain⟨rfl,rfl⟩:=e;subst hm;rcases r with⟨_,_,rfl|⟨i,p,o,rfl⟩⟩|⟨j,p,o,vs,rfl,_⟩
     ·exact⟨_,[],rfl,rfl,rfl,by simp[RVs]⟩
     ·exact⟨_,[],rfl,rfl,rfl,by simp[RVs]⟩
     ·exact⟨_,[],rfl,rfl,rfl,by simp[RVs]⟩
    ·rw[zuQ hm] at e;split at e
     ·rename_i ht;obtain⟨rfl,rfl⟩:=ht;simp only[zuE,zuH] at e;obtain⟨rfl,rfl⟩:=e;rcases r with⟨h0,_⟩|⟨j,p,o,vs,rfl,h1,h2,h3,h4,h5⟩
      ·exact absurd h0 hm
      ·exact⟨_,_,rfl,rfl,zhg h2 h4,h5⟩
     ·cases e
   |sl i w o m=>
    simp only[elX] at e;split at e
    ·rename_i t' z' cs' hc;split at e
     ·rename_i ht;obtain⟨rfl,rfl⟩:=ht;split at e
      ·rename_i hl;simp only[zuE,zuH] at e;obtain⟨rfl,rfl⟩:=e;rw[zaD];rcases r.sl hc with⟨rfl,_,rfl,rfl|⟨j,p,q,rfl⟩⟩|⟨h1,p,rfl⟩
       ·exact⟨_,[],rfl,rfl,rfl,by simp[RVs]⟩
       ·exact⟨_,[],rfl,rfl,rfl,by simp[RVs]⟩
       ·obtain⟨vs,h3,h4,_⟩:=H.own hc h1;exact⟨_,_,rfl,rfl,zhg (vs:=vs) (by rw[zV,h3];rfl) (by rw[←h4.len];exact hl),(h4.drop _).take _⟩
      ·cases e
     ·cases e
    ·cases e
theorem RF.s_inv{R:XE}{v:XV}{y:FV}(r:RF R (.s v) y):∃b,y= .s b∧RV R v b:=by
 cases y with
 |s b=>simp only[RF] at r;exact⟨b,rfl,r⟩
 |agg l=>simp[RF] at r
 |tup l=>simp[RF] at r
theorem RF.len{R:XE}{n:Nat}{x:XF}{y:FV}(r:RF R x y)(e:Y6 R.g x=some n):∃b,y= .s b∧zbE b=some n:=by
 cases x with
 |agg l=>simp[Y6] at e
 |tup l=>simp[Y6] at e
 |s x=>
  obtain⟨b,rfl,r2⟩:=r.s_inv;refine⟨b,rfl,?_⟩;cases x with
  |ptr i w o=>simp[Y6] at e
  |lp cs o=>simp[Y6] at e
  |cl i=>simp[Y6] at e
  |v s=>
   simp only[RV] at r2;obtain⟨rfl,_⟩:=r2;cases b<;>simp[Y6] at e;rw[←e];rfl
  |nl=>
   simp only[RV] at r2;simp[Y6] at e;rcases r2 with rfl|⟨i,p,o,rfl⟩<;>rw[←e]<;>rfl
  |lst t z m cs=>
   simp only[RV] at r2;simp[Y6] at e;rcases r2 with⟨h,_,rfl|⟨i,p,o,rfl⟩⟩|⟨j,p,o,vs,rfl,_⟩
   ·rw[←e,h];rfl
   ·rw[←e,h];rfl
   ·rw[←e];rfl
  |sl i w o m=>
   simp only[Y6,zuE] at e;simp only[RV] at r2;exact e▸r2.2.2.1
theorem RF.iad{R:XE}(H:HR R){t z:Nat}{k:Int}{x:XF}{y:FV}{p:XV}(r:RF R x y)(e:jX R.g t z k x=some p):∃j q o n vs,y= .s (.sl j q o n)∧cellsOf R.h j=some (t,vs)∧0≤k∧k<n∧RV R p (.ptr j ((o+k.toNat)*z)):=by
 cases x with
 |agg l=>simp[jX] at e
 |tup l=>simp[jX] at e
 |s x=>
  obtain⟨b,rfl,r2⟩:=r.s_inv;cases x with
  |ptr i w o=>simp[jX] at e
  |lp cs o=>simp[jX] at e
  |cl i=>simp[jX] at e
  |nl=>simp[jX] at e
  |v s=>simp[jX] at e
  |lst t' z' n cs=>
   simp only[jX] at e;split at e
   ·rename_i ht;obtain⟨rfl,rfl⟩:=ht;split at e
    ·rename_i h0;split at e
     ·rename_i hk;obtain rfl:=zuG e;simp only[RV] at r2;rcases r2 with⟨h3,_⟩|⟨j,q,o,vs,rfl,h4,h5,h6,h7,h8⟩
      ·exfalso;simp[h3] at hk;omega
      ·refine⟨j,q,o,n,vs,rfl,h5,h0,hk,?_⟩;simp only[RV];rw[zvv] at h7;refine⟨j,o*z',t',vs,by rw[zvv],h4,h5,by omega,?_⟩;rw[h6];exact h8
     ·cases e
    ·cases e
   ·cases e
  |sl j w o n=>
   simp only[jX] at e;split at e
   ·rename_i t' z' cs hc;split at e
    ·rename_i ht;obtain⟨rfl,rfl⟩:=ht;split at e
     ·rename_i h0;split at e
      ·rename_i hk;obtain rfl:=zuG e;rcases r2.sl hc with⟨_,_,rfl,_⟩|⟨h3,q,rfl⟩
       ·exfalso;simp at hk;omega
       ·obtain⟨vs,h5,h6,_⟩:=H.own hc h3;refine⟨R.φ j,q,o,n,vs,rfl,by rw[zV,h5];rfl,h0,hk,?_⟩;simp only[RV] at r2⊢;exact⟨r2.1,r2.2.1,fun _=>by first|rfl|trivial⟩
      ·cases e
     ·cases e
    ·cases e
   ·cases e
theorem RF.rd{R:XE}(H:HR R){x:XF}{y:FV}{cs:List XV}{o:Nat}(r:RF R x y)(e:rdX R.g x=some (cs,o))(hc0:cs≠[]):∃j q t vs,y= .s (.ptr j (q+o))∧cellsOf R.h j=some (t,vs)∧q+cs.length≤vs.length∧RVs R cs ((vs.drop q).take cs.length):=by
 cases x with
 |agg l=>simp[rdX] at e
 |tup l=>simp[rdX] at e
 |s x=>
  obtain⟨b,rfl,r2⟩:=r.s_inv;cases x with
  |sl i w o n=>simp[rdX] at e
  |lst t z n cs=>simp[rdX] at e
  |cl i=>simp[rdX] at e
  |nl=>simp[rdX] at e
  |v s=>simp[rdX] at e
  |lp cs' o'=>
   simp only[rdX,zuE,zuH] at e;obtain⟨rfl,rfl⟩:=e;simp only[RV] at r2;obtain⟨j,q,t,vs,rfl,_,h5,h6,h7⟩:=r2;exact⟨j,q,t,vs,rfl,h5,h6,h7⟩
  |ptr i w o'=>
   simp only[rdX] at e;split at e
   ·rename_i t z cs' hc;simp only[zuE,zuH] at e;obtain⟨rfl,rfl⟩:=e;have:=r2.ptr hc;subst this;obtain⟨vs,h4,h5,_⟩:=H.own hc (zgQ hc hc0);have hl:=h5.len;exact⟨R.φ i,0,t,vs,by rw[zvn],by rw[zV,h4];rfl,by omega,by rw[zu8,hl,zve];exact h5⟩
   ·cases e
def Sim(B:Nat→Prop)(R:XE)(v:XF)(g:XH)(r:Option (FV×LH)):Prop:=∃R' v',r=some (v',R'.h)∧R'.g=g∧HR R'∧Ex2 B R R'∧RF R' v v'
theorem Sim.same{B:Nat→Prop}{R:XE}(H:HR R){v:XF}{v':FV}(r:RF R v v'):Sim B R v R.g (some (v',R.h)):=⟨R,v',rfl,rfl,H,Ex2.refl _ _,r⟩
theorem QH{R:XE}{w t z:Nat}{cs:List XV}{y:LO}(n:Nat):RV (R.new (.own w t z cs) y) (.ptr R.g.length w 0) (.ptr R.h.length 0)∧RV (R.new (.own w t z cs) y) (.sl R.g.length w 0 n) (.sl R.h.length 0 0 n):=by
 have e1:tg (R.new (.own w t z cs) y).g R.g.length=some (false,w):=by simp only[XE.new];rw[zuf];rfl
 have e2:(R.new (.own w t z cs) y).φ R.g.length=R.h.length:=by simp[XE.new]
 have e3:R.g.length<(R.new (.own w t z cs) y).g.length:=by simp[XE.new]
 have e4:sol (R.new (.own w t z cs) y) R.g.length:=Zw (w:=w) (t:=t) (z:=z) (cs:=cs) (by simp only[XE.new];rw[zuN (zuL _),zvG];rfl) (.inr (by simp[XE.new]));refine⟨?_,?_⟩
 ·simp only[RV];refine⟨e3,fun k hk=> ?_,fun _=>by rw[e2]⟩;rw[e1] at hk;simp at hk;omega
 ·simp only[RV];refine⟨e3,fun k hk=> ?_,rfl,fun _=> .inr ⟨e4,0,by rw[e2]⟩⟩;rw[e1] at hk;simp at hk;omega
theorem zlx{B:Nat→Prop}{R:XE}(H:HR R){t z m:Nat}{x v:XF}{u:FV}{g:XH}(rx:RF R x u)(hw:∀i w o n,x= .s (.sl i w o n)→B i)(e:zni R.g t z x m=some (v,g)):
 ∃b,u= .s b∧Sim B R v g (zfS R.h t z b m):=by
 unfold zni at e;split at e
 ·split at e
  ·rename_i h0;subst h0;obtain⟨rfl,rfl⟩:=by simpa using e
   obtain⟨b,rfl,r⟩:=rx.s_inv;simp only[RV] at r;obtain⟨rfl,_⟩:=r;exact⟨_,rfl,Sim.same H rx⟩
  ·cases e
 ·split at e
  ·rename_i h0;subst h0;obtain⟨rfl,rfl⟩:=by simpa using e
   obtain⟨b,rfl,r⟩:=rx.s_inv;simp only[RV] at r;rcases r with rfl|⟨i,p,o,rfl⟩
   ·exact⟨_,rfl,Sim.same H rx⟩
   ·exact⟨_,rfl,Sim.same H rx⟩
  ·cases e
 ·rename_i i w o n;split at e
  ·rename_i t' z' cs hc;split at e
   ·rename_i hh;obtain⟨rfl,rfl,rfl,hm,hl,h0⟩:=hh;obtain⟨rfl,rfl⟩:=by simpa using e
    obtain⟨b,rfl,r⟩:=rx.s_inv;refine⟨b,rfl,?_⟩;have hg:=(ju hc).1;have li:=(zuJ.1 hg).1;have hB:=hw i w 0 n rfl;by_cases hz:m=0
    ·subst hz;obtain⟨X,Y,N⟩:=zlC (B:=B) H hg hB;have nb:∀b:SV,(b= .nils∨∃j p q,b= .sl0 j p q)→RF (R.drop0 i (.own (w+1) t' z' [])) (.s (.sl i (w+1) 0 0)) (.s b):=fun b hb=>by
      simp only[RF,RV];have e1:tg (R.drop0 i (.own (w+1) t' z' [])).g i=some (false,w+1):=by simp only[XE.drop0];rw[QN li];rfl
      refine⟨by simp only[XE.drop0,zvi];exact li,fun k hk=> ?_,?_,fun _=> .inl ⟨N,by first|rfl|trivial,hb⟩⟩
      ·rw[e1] at hk;simp at hk;omega
      ·rcases hb with rfl|⟨j,p,q,rfl⟩<;>rfl
     have hcut:∀b':SV,zfS R.h t' z' b 0=some (.s b',R.h)→(b'= .nils∨∃j p q,b'= .sl0 j p q)→Sim B R (.s (.sl i (w+1) 0 0)) (R.g.set i (.own (w+1) t' z' (cs.take (0*z')))) (zfS R.h t' z' b 0):=fun b' h1 h2=>by rw[h1,zvP,zvs];exact⟨R.drop0 i (.own (w+1) t' z' []),_,rfl,rfl,Y,X,nb _ h2⟩
     rcases r.sl hc with⟨rfl,hns,rfl,rfl|⟨j,p,q,rfl⟩⟩|⟨h1,p,rfl⟩
     ·exact hcut .nils rfl (.inl rfl)
     ·exact hcut (.sl0 j p q) rfl (.inr ⟨_,_,_,rfl⟩)
     ·exact hcut (.sl0 (R.φ i) p 0) rfl (.inr ⟨_,_,_,rfl⟩)
    ·rcases r.sl hc with⟨_,_,rfl,_⟩|⟨h1,p,rfl⟩
     ·omega
     ·obtain⟨vs,h3,h4,_⟩:=H.own hc h1;have hlen:=h4.len;have hmz:m*z'≤n*z':=zvf _ hm;have hne:cs.take (m*z')≠[]:=fun h=>by
       have:=congrArg List.length h;rw[zu0,zv1] at this;omega
      have he:zfS R.h t' z' (.sl (R.φ i) p 0 n) m=some (.s (.sl R.h.length 0 0 m),R.h.set (R.φ i) .dead++[.own t' ((vs.drop (0*z')).take (m*z'))]):=by unfold zfS;rw[zuQ hz];simp only[h3,if_true];rw[zuO hm,zuO (by rw[←hlen,zvn];exact hl)]
      rw[he];obtain⟨X,Y⟩:=zbA (B:=B) (h0:=R.h.set (R.φ i) .dead) (vs':=(vs.drop (0*z')).take (m*z')) H hg hne hB (by rw[zvP,zu8];exact h4.take _) (by simp) (fun j hj=>by rw[zuR (hj h1)]);refine⟨R.grow i (.own (w+1) t' z' (cs.take (m*z'))) (R.h.set (R.φ i) .dead++[.own t' ((vs.drop (0*z')).take (m*z'))]),_,rfl,rfl,Y,X,?_⟩;simp only[RF,RV];have e1:tg (R.grow i (.own (w+1) t' z' (cs.take (m*z'))) (R.h.set (R.φ i) .dead++[.own t' ((vs.drop (0*z')).take (m*z'))])).g i=some (false,w+1):=by simp only[XE.grow];rw[QN li];rfl
      have e2:sol (R.grow i (.own (w+1) t' z' (cs.take (m*z'))) (R.h.set (R.φ i) .dead++[.own t' ((vs.drop (0*z')).take (m*z'))])) i:=Zw (w:=w+1) (t:=t') (z:=z') (cs:=cs.take (m*z')) (by simp only[XE.grow];rw[zu1 li]) (.inl hne);refine⟨by simp only[XE.grow,zvi];exact li,fun k hk=> ?_,rfl,fun _=> .inr ⟨e2,0,by simp[XE.grow]⟩⟩;rw[e1] at hk;simp at hk;omega
   ·cases e
  ·cases e
 ·cases e
theorem zg6{B:Nat→Prop}{R:XE}(H:HR R){t z y n:Nat}{x v:XF}{u:FV}{new:List XV}{nv:List SV}{g:XH}(rx:RF R x u)(rn:RVs R new nv)(hw:∀i w o m,x= .s (.sl i w o m)→n≠0→B i)(e:zco R.g t z y x n new=some (v,g)):
 ∃b,u= .s b∧Sim B R v g (ZF R.h t z y b n nv):=by
 unfold zco at e;split at e
 ·rename_i hn;subst hn;split at e
  ·obtain⟨rfl,rfl⟩:=by simpa using e
   obtain⟨b,rfl,r⟩:=rx.s_inv;have r0:=r;simp only[RV] at r;obtain⟨rfl,_⟩:=r;exact⟨_,rfl,by rw[qB];exact Sim.same H rx⟩
  ·obtain⟨rfl,rfl⟩:=by simpa using e
   obtain⟨b,rfl,r⟩:=rx.s_inv;simp only[RV] at r;rcases r with rfl|⟨i,p,o,rfl⟩
   ·exact⟨_,rfl,by rw[qB];exact Sim.same H rx⟩
   ·exact⟨_,rfl,by rw[Ys];exact Sim.same H rx⟩
  ·obtain⟨rfl,rfl⟩:=by simpa using e
   obtain⟨b,rfl,r⟩:=rx.s_inv;simp only[RV] at r;rcases r with⟨_,_,rfl|⟨i,p,o,rfl⟩⟩|⟨j,p,o,vs,rfl,_⟩
   ·exact⟨_,rfl,by rw[qB];exact Sim.same H rx⟩
   ·exact⟨_,rfl,by rw[Ys];exact Sim.same H rx⟩
   ·exact⟨_,rfl,by rw[zaw];exact Sim.same H rx⟩
  ·split at e
   ·rename_i hl;obtain⟨rfl,rfl⟩:=by simpa using e
    obtain⟨b,rfl,r⟩:=rx.s_inv;obtain⟨t',z',cs,hc⟩:=jG hl;rcases r.sl hc with⟨_,_,_,rfl|⟨j,p,q,rfl⟩⟩|⟨_,p,rfl⟩
    ·exact⟨_,rfl,by rw[qB];exact Sim.same H rx⟩
    ·exact⟨_,rfl,by rw[Ys];exact Sim.same H rx⟩
    ·exact⟨_,rfl,by rw[zaw];exact Sim.same H rx⟩
   ·cases e
  ·cases e
 ·rename_i hn;split at e
  ·cases e
  ·rename_i hnl;have fresh:∀b,(b=SV.nils∨∃i p o,b=SV.sl0 i p o)→n*y≤140737488355328→Sim B R (.s (.sl R.g.length 0 0 n)) (R.g++[.own 0 t z new]) (ZF R.h t z y b n nv):=fun b hb hy=>by
    have h1:ZF R.h t z y b n nv=some (.s (.sl R.h.length 0 0 n),R.h++[.own t nv]):=by
     rcases hb with rfl|⟨i,p,o,rfl⟩
     ·exact zeA hn hy
     ·exact zg5 hn hy
    rw[h1];obtain⟨h2,h3⟩:=QG H (w:=0) (t:=t) (z:=z) rn;refine⟨R.new (.own 0 t z new) (.own t nv),_,rfl,rfl,h2,Yx _ _ _ _,?_⟩;simp only[RF];exact(QH n).2
   split at e
   ·split at e
    ·rename_i hy;obtain⟨rfl,rfl⟩:=by simpa using e
     obtain⟨b,rfl,r⟩:=rx.s_inv;simp only[RV] at r;exact⟨b,rfl,fresh b (.inl r.1) hy⟩
    ·cases e
   ·split at e
    ·rename_i hy;obtain⟨rfl,rfl⟩:=by simpa using e
     obtain⟨b,rfl,r⟩:=rx.s_inv;simp only[RV] at r;exact⟨b,rfl,fresh b r hy⟩
    ·cases e
   ·rename_i i w o m;split at e
    ·rename_i t' z' cs hc;split at e
     ·rename_i hh;obtain⟨rfl,rfl,hm,hy⟩:=hh;obtain⟨rfl,rfl⟩:=by simpa using e
      obtain⟨b,rfl,r⟩:=rx.s_inv;refine⟨b,rfl,?_⟩;have hg:=(ju hc).1;have hB:=hw i w o m rfl hn;have nb:∀cells h1,RF (R.grow i (.own (w+1) t' z' (cells++new)) h1) (.s (.sl i (w+1) 0 (m+n))) (.s (.sl R.h.length 0 0 (m+n))):=fun cells h1=>by
       simp only[RF,RV];have li:=(zuJ.1 hg).1;have e1:tg (R.grow i (.own (w+1) t' z' (cells++new)) h1).g i=some (false,w+1):=by simp only[XE.grow];rw[QN li];rfl
       have e2:sol (R.grow i (.own (w+1) t' z' (cells++new)) h1) i:=Zw (w:=w+1) (t:=t') (z:=z') (cs:=cells++new) (by simp only[XE.grow];rw[zu1 li]) (.inl (by simp[YK hnl]));refine⟨by simp only[XE.grow,zvi];exact li,fun k hk=> ?_,rfl,fun _=> .inr ⟨e2,0,by simp[XE.grow]⟩⟩;rw[e1] at hk;simp at hk;omega
      have hne:∀cells:List XV,cells++new≠[]:=fun cells=>by simp[YK hnl]
      rw[zaD];rcases r.sl hc with⟨rfl,hns,rfl,hb⟩|⟨h1,p,rfl⟩
      ·rw[zvn] at hy;have he:ZF R.h t' z' y b n nv=some (.s (.sl R.h.length 0 0 n),R.h++[.own t' nv]):=by
        rcases hb with rfl|⟨j,p,q,rfl⟩
        ·exact zeA hn hy
        ·exact zg5 hn hy
       rw[he];have hd:((([]:List XV).drop (o*z')).take (0*z'))=[]:=by simp
       rw[hd];obtain⟨X,Y⟩:=zbA (B:=B) (h0:=R.h) (vs':=nv) H hg (hne []) hB (by simpa using rn) rfl (fun _ _=>rfl);have q:=nb [] (R.h++[.own t' nv]);rw[zvn] at q⊢;exact⟨R.grow i (.own (w+1) t' z' ([]++new)) (R.h++[.own t' nv]),_,rfl,rfl,Y,X,q⟩
      ·obtain⟨vs,h3,h4,_⟩:=H.own hc h1;have hl:=h4.len;have he:=zm1 (h:=R.h) (z:=z') (p:=p) (o:=o) (m:=m) (n:=n) (new:=nv) h3 hn (by rw[←hl];exact hm) hy;rw[he];obtain⟨X,Y⟩:=zbA (B:=B) (h0:=R.h.set (R.φ i) .dead) (vs':=(vs.drop (o*z')).take (m*z')++nv) H hg (hne ((cs.drop (o*z')).take (m*z'))) hB (((h4.drop _).take _).app rn) (by simp) (fun j hj=>by rw[zuR (hj h1)]);exact⟨R.grow i (.own (w+1) t' z' ((cs.drop (o*z')).take (m*z')++new)) (R.h.set (R.φ i) .dead++[.own t' ((vs.drop (o*z')).take (m*z')++nv)]),_,rfl,rfl,Y,X,nb _ _⟩
     ·cases e
    ·cases e
   ·cases e
theorem RF.sc{R:XE}{a:SV}(h:nlS a=true):RF R (.s (.v a)) (.s a):=by simp only[RF,RV];exact⟨trivial,h⟩
theorem zsF{op:BinOp}{x y v:SV}(e:zcW op x y=some v):nlS v=true:=by
 unfold zcW at e;split at e
 ·split at e
  ·unfold zjX at e;split at e
   ·cases e
   ·split at e<;>simp at e<;>subst e<;>rfl
  ·split at e
   ·unfold zdA at e
    split at e<;>first
     |(cases e;done)
     |(simp at e;subst e;rfl)
     |(simp at e;obtain⟨_,rfl⟩:=e;rfl)
   ·cases e
 ·unfold zej at e
  split at e<;>first
   |(cases e;done)
   |(simp at e;subst e;rfl)
   |(simp at e;obtain⟨_,rfl⟩:=e;rfl)
 ·unfold zb7 at e
  split at e<;>first
   |(cases e;done)
   |(simp at e;subst e;rfl)
   |(split at e<;>simp at e<;>subst e<;>rfl)
 ·unfold zb9 at e;split at e<;>simp at e<;>subst e<;>rfl
 ·cases e
theorem un_nl{op:UnOp}{x v:SV}(e:unE op x=some v):nlS v=true:=by unfold unE at e;split at e<;>simp at e<;>subst e<;>rfl
theorem zn7:∀{l:List SV} {k:IntKind} {a:Int} {v:SV},zbJ k a l=some v→nlS v=true
 |[],k,a,v,e=>by simp[zbJ] at e;subst e;rfl
 |x::l,k,a,v,e=>by cases x<;>simp[zbJ] at e;exact zn7 e
theorem zn5:∀{l:List SV} {k:IntKind} {a:Int} {v:SV},zbH k a l=some v→nlS v=true
 |[],k,a,v,e=>by simp[zbH] at e;subst e;rfl
 |x::l,k,a,v,e=>by cases x<;>simp[zbH] at e;exact zn5 e
theorem zoQ{s:ByteArray}:∀a∈yP s,nlS a=true:=by intro a ha;unfold yP at ha;obtain⟨b,_,rfl⟩:=zvV.1 ha;rfl
theorem zjO{zero:List SV}(h:zero.all nlS=true)(n:Nat):∀a∈rep n zero,nlS a=true:=by intro a ha;unfold rep at ha;rw[zxx] at ha;obtain⟨l,h1,h2⟩:=ha;rw[(List.mem_replicate.1 h1).2] at h2;exact(zu4.1 h) a h2
theorem zkX{zero:List SV}(n:Nat):(rep n zero).length=n*zero.length:=by unfold rep;rw[List.length_flatten,List.map_replicate,List.sum_replicate_nat]
theorem ziX{R:XE}{q:Nat}{x y:XV}{a b:SV}(h1:RV R x a)(h2:RV R y b){t:Bool}(e:YV q (unV x) (unV y)=some t):YV q a b=some t:=by
 cases x<;>simp only[unV] at e<;>try (unfold YV at e;split at e<;>simp_all;done)
 cases y<;>simp only[unV] at e<;>try (unfold YV at e;split at e<;>simp_all;done)
 simp only[RV] at h1 h2;rw[h1.1,h2.1];exact e
theorem zb5{R:XE}{xs ys:List XV}{as bs:List SV}(h1:RVs R xs as)(h2:RVs R ys bs):∀{l:List (Nat×Nat)} {t:Bool},jV (xs.map unV) (ys.map unV) l=some t→jV as bs l=some t
 |[],t,e=>e
 |(o,q)::l,t,e=>by
  simp only[jV,zvC] at e;cases e1:xs[o]? with
  |none=>rw[e1] at e;simp at e
  |some x=>
   cases e2:ys[o]? with
   |none=>rw[e1,e2] at e;simp at e
   |some y=>
    rw[e1,e2] at e;simp only[zvb] at e;obtain⟨a,h3,h4⟩:=h1.get e1;obtain⟨b,h5,h6⟩:=h2.get e2;simp only[jV,h3,h5];cases e3:YV q (unV x) (unV y) with
    |none=>rw[e3] at e;cases e
    |some u=>
     rw[e3] at e;rw[ziX h4 h6 e3];cases u with
     |true=>exact zb5 h1 h2 e
     |false=>exact e
theorem zeE{R:XE}:∀{cs:List XV} {vs:List SV} {l:List UInt8},RVs R cs vs→zbo cs=some l→YT vs=some l
 |[],[],l,_,e=>e
 |c::cs,d::vs,l,h,e=>by
  simp only[RVs] at h;cases c with
  |v a=>
   cases a with
   |int k n=>
    cases k<;>simp[zbo] at e;obtain⟨r,h1,rfl⟩:=e;have h2:=h.1;simp only[RV] at h2;obtain⟨rfl,_⟩:=h2;simp only[YT,zeE h.2 h1];rfl
   |_=>simp[zbo] at e
  |_=>simp[zbo] at e
 |[],_::_,_,h,_=>by simp[RVs] at h
 |_::_,[],_,h,_=>by simp[RVs] at h
theorem RF.agg_inv{R:XE}{l:List XV}{y:FV}(r:RF R (.agg l) y):∃m,y= .agg m∧RVs R l m:=by
 cases y with
 |s b=>simp[RF] at r
 |agg m=>simp only[RF] at r;exact⟨m,rfl,r⟩
 |tup m=>simp[RF] at r
theorem RF.tup_inv{R:XE}{l:List XF}{y:FV}(r:RF R (.tup l) y):∃m,y= .tup m∧RFs R l m:=by
 cases y with
 |s b=>simp[RF] at r
 |agg m=>simp[RF] at r
 |tup m=>simp only[RF] at r;exact⟨m,rfl,r⟩
theorem RFs.get{R:XE}:∀{a:List XF} {b:List FV} {k:Nat} {x:XF},RFs R a b→a[k]? =some x→∃y,b[k]? =some y∧RF R x y
 |[],_,k,x,_,e=>by simp at e
 |a::r,b::s,0,x,h,e=>by
  simp only[RFs] at h;simp only[zvt,zuE] at e;exact⟨b,rfl,e▸h.1⟩
 |a::r,b::s,k+1,x,h,e=>by
  simp only[RFs] at h;simp only[zvL] at e⊢;exact RFs.get h.2 e
 |_::_,[],_,_,h,_=>by simp[RFs] at h
theorem JY{R:XE}:∀{a:List XF} {b:List FV},RFs R a b→a.all (fun x=>(fcX x).isSome)=true→Yg b=true
 |[],[],_,_=>rfl
 |a::r,b::s,h,e=>by
  simp only[RFs] at h;simp only[zwp,zuP] at e;cases a with
  |s a=>obtain⟨_,rfl,_⟩:=h.1.s_inv;simp only[Yg];exact JY h.2 e.2
  |agg a=>obtain⟨_,rfl,_⟩:=h.1.agg_inv;simp only[Yg];exact JY h.2 e.2
  |tup a=>simp[fcX] at e
 |[],_::_,h,_=>by simp[RFs] at h
 |_::_,[],h,_=>by simp[RFs] at h
theorem ztL{R:XE}{f:Nat}{a b:List XF}{y:LO}:RV (R.new (.clo f a b) y) (.cl R.g.length) (.cl R.h.length):=by simp only[RV,XE.new];exact⟨by simp,fun _=>by simp⟩
theorem zcK{B:Nat→Prop}{R:XE}(H:HR R){i w t z:Nat}{cs l:List XV}{m:List SV}{o:Nat}(hc:zL R.g i w=some (t,z,cs))(h0:cs.length≠0)(hB:B i)(r:RVs R l m):
 ∃vs,R.h[R.φ i]? =some (.own t vs)∧vs.length=cs.length∧∀v v',RF (R.set i (.own w t z (setX cs o l)) (.own t (qr vs o m))) v v'→Sim B R v (R.g.set i (.own w t z (setX cs o l))) (some (v',R.h.set (R.φ i) (.own t (qr vs o m)))):=by
 obtain⟨vs,h1,h2,_⟩:=H.own hc (zgQ hc (YK h0));have hg:=(ju hc).1;refine⟨vs,h1,h2.len.symm,fun v v' hr=> ?_⟩;exact⟨_,v',rfl,rfl,zt5 H hg (YK h0) (zbe _ _ _) (RVs.setX o r h2),zoI hg (YK h0) (zbe _ _ _) hB,hr⟩
theorem Sim.v{B:Nat→Prop}{R:XE}(H:HR R){s:SV}(h:nlS s=true):Sim B R (.s (.v s)) R.g (some (.s s,R.h)):=Sim.same H (RF.sc h)
theorem map_some{α β:Type}{f:α→β}{x:Option α}{y:β}(e:x.map f=some y):∃a,x=some a∧f a=y:=zuI.1 e
theorem zdI{R:XE}(H:HR R){a:XFr}{b:Fr}(h:RFr R a b){agg:Bool}{n:Nat}{x:OD}{v:XF}{g:XH}(e:opX a R.g (.load agg n x)=some (v,g)):g=R.g∧∃v',opE b R.h (.load agg n x)=some (v',R.h)∧RF R v v':=by
 simp only[opX] at e;split at e
 ·rename_i cs o e1;obtain⟨u,e2,e3⟩:=zuU.1 e1;obtain⟨w,e4,e5⟩:=map_some e;simp only[zuH] at e5;obtain⟨rfl,rfl⟩:=e5;have hne:cs≠[]:=by
   rintro rfl;cases agg<;>simp[ldC] at e4;omega
  obtain⟨u',h1,h2⟩:=h.od e2;obtain⟨j,q,t,vs,rfl,h3,h4,h5⟩:=h2.rd H e3 hne;have h6:odS b x=some (.ptr j (q+o)):=by unfold odS;rw[h1]
  have hl:=h5.len;rw[zu0,zvQ] at hl;refine⟨rfl,?_⟩;simp only[opE,h6,h3];unfold ldC at e4;cases agg with
  |true=>
   simp only[if_true] at e4⊢;split at e4
   ·rename_i hon;obtain rfl:=zuG e4;rw[zuO (by omega)];have:=(h5.drop o).take n;rw[zw0,zwZ,zwI,zvu (by omega)] at this;exact⟨_,rfl,by simp only[RF];exact this⟩
   ·cases e4
  |false=>
   simp only[zva,if_false] at e4⊢;split at e4
   ·rename_i c hcc;obtain rfl:=zuG e4;obtain⟨y,h8,h9⟩:=h5.get hcc;have lo:=(zuJ.1 hcc).1;rw[zvh,zuO lo,zvH] at h8;simp only[h8];exact⟨_,rfl,by simp only[RF];exact h9⟩
   ·cases e4
 ·cases e
set_option maxRecDepth 4000 in
set_option maxHeartbeats 4000000 in
theorem ztR{B:Nat→Prop}{R:XE}(H:HR R){a:XFr}{b:Fr}(h:RFr R a b){o:EO}{v:XF}{g:XH}(hB:∀i,wrX a R.g o=some i→B i)(e:opX a R.g o=some (v,g)):Sim B R v g (opE b R.h o):=by
 cases o with
 |mov x=>
  simp only[opX] at e;obtain⟨u,h1,h2⟩:=map_some e;obtain⟨rfl,rfl⟩:=by simpa using h2
  obtain⟨u',h3,h4⟩:=h.od h1;simp only[opE,h3,zvb];exact Sim.same H h4
 |nilc x=>
  simp only[opX] at e;split at e
  ·rename_i i w o e1;split at e
   ·rename_i hl;simp only[zuE,zuH] at e;obtain⟨rfl,rfl⟩:=e;obtain⟨t,z,cs,hc⟩:=jG hl;obtain⟨v',_,h2,h3⟩:=h.odv e1;have:=h3.ptr hc;subst this;simp only[opE,h2];exact Sim.same H (by simp only[RF];exact h3)
   ·cases e
  ·rename_i cs o e1;simp only[zuE,zuH] at e;obtain⟨rfl,rfl⟩:=e;obtain⟨v',_,h2,h3⟩:=h.odv e1;have h4:=h3;simp only[RV] at h3;obtain⟨j,q,t,vs,rfl,_⟩:=h3;simp only[opE,h2];exact Sim.same H (by simp only[RF];exact h4)
  ·cases e
 |nilf x=>
  simp only[opX] at e;split at e
  ·rename_i i e1;split at e
   ·rename_i f c d hi;simp only[zuE,zuH] at e;obtain⟨rfl,rfl⟩:=e;obtain⟨v',_,h2,h3⟩:=h.odv e1;have h4:=h3;simp only[RV] at h3;have h5:=h3.2 (by rw[JB hi];rfl);subst h5;obtain⟨_,a',b',h6,_⟩:=H.ob i _ hi;simp only[opE,h2,h6];exact Sim.same H (by simp only[RF];exact h4)
   ·cases e
  ·rename_i f e1;simp only[zuE,zuH] at e;obtain⟨rfl,rfl⟩:=e;obtain⟨v',_,h2,h3⟩:=h.odv e1;simp only[RV] at h3;obtain⟨rfl,h4⟩:=h3;simp only[opE,h2];exact Sim.v H h4
  ·cases e
 |pick c x y=>
  simp only[opX] at e;split at e
  ·rename_i t u w e1 e2 e3;simp only[zuE,zuH] at e;obtain⟨rfl,rfl⟩:=e;obtain⟨u',h4,h5⟩:=h.od e2;obtain⟨w',h6,h7⟩:=h.od e3;simp only[opE,(h.oda e1).1,h4,h6];exact Sim.same H (by cases t<;>simp[h5,h7])
  ·cases e
 |load agg n x=>
  obtain⟨rfl,v',h1,h2⟩:=zdI H h e;rw[h1];exact Sim.same H h2
 |store n x y=>
  simp only[opX] at e;split at e
  ·rename_i i w o l e1 e2;split at e
   ·rename_i t z cs hc;split at e
    ·rename_i hl;split at e
     ·rename_i hon;split at e
      ·cases e
      ·rename_i h0;simp only[zuE,zuH] at e;obtain⟨rfl,rfl⟩:=e;obtain⟨v',_,h2,h3⟩:=h.odv e1;have:=h3.ptr hc;subst this;obtain⟨m,h4,h5⟩:=h.cells e2;have hBi:=hB i (by simp only[wrX,e1]);obtain⟨vs,h6,h7,h8⟩:=zcK (o:=o) H hc h0 hBi h5;simp only[opE,h2,h4,h6];rw[zuO (by rw[←h5.len];exact hl),zuO (by omega)];exact h8 _ _ (by simp[RF,RFs])
     ·cases e
    ·cases e
   ·cases e
  ·cases e
 |new t n x=>
  simp only[opX] at e;split at e
  ·rename_i l e1;split at e
   ·rename_i hl;split at e
    ·cases e
    ·simp only[zuE,zuH] at e;obtain⟨rfl,rfl⟩:=e;obtain⟨m,h4,h5⟩:=h.cells e1;simp only[opE,h4];rw[zuO (by rw[←h5.len];exact hl)];refine⟨_,_,rfl,rfl,(QG H (w:=0) (t:=t) (z:=n) h5).1,Yx _ _ _ _,?_⟩;simp only[RF];exact(QH 0).1
   ·cases e
  ·cases e
 |build zero ps=>
  simp only[opX] at e;split at e
  ·rename_i hz;obtain⟨l,h1,h2⟩:=map_some e;obtain⟨rfl,rfl⟩:=by simpa using h2
   obtain⟨l',h3,h4⟩:=h.fill (RVs.v (by simpa using hz)) h1;simp only[opE,h3,zvb];exact Sim.same H (by simp only[RF];exact h4)
  ·cases e
 |bsl t n zero ps=>
  simp only[opX] at e;split at e
  ·rename_i hz;obtain⟨l,h1,h2⟩:=map_some e;obtain⟨rfl,rfl⟩:=by simpa using h2
   obtain⟨l',h3,h4⟩:=h.fill (RVs.v (zjO hz n)) h1;simp only[opE,h3,zvb];refine⟨_,_,rfl,rfl,(QG H (w:=0) (t:=t) (z:=zero.length) h4).1,Yx _ _ _ _,?_⟩;simp only[RF];exact(QH n).2
  ·cases e
 |bin op x y=>
  simp only[opX] at e;split at e
  ·rename_i s t e1 e2;obtain⟨u,h1,h2⟩:=map_some e;obtain⟨rfl,rfl⟩:=by simpa using h2
   simp only[opE,(h.oda e1).1,(h.oda e2).1,h1,zvb];exact Sim.v H (zsF h1)
  ·cases e
 |eqb neq x y=>
  simp only[opX] at e;split at e
  ·rename_i s t e1 e2;simp only[zuE,zuH] at e;obtain⟨rfl,rfl⟩:=e;simp only[opE,(h.oda e1).1,(h.oda e2).1];exact Sim.v H rfl
  ·cases e
 |eqp neq x y=>
  simp only[opX] at e;split at e
  ·rename_i e1 e2;simp only[zuE,zuH] at e;obtain⟨rfl,rfl⟩:=e;obtain⟨v1,_,h1,h2⟩:=h.odv e1;obtain⟨v2,_,h3,h4⟩:=h.odv e2;simp only[RV] at h2 h4;obtain⟨rfl,_⟩:=h2;obtain⟨rfl,_⟩:=h4;simp only[opE,h1,h3,zet,zvb];have:Y9 neq true=FV.s (.bool (if neq then false else true)):=by cases neq<;>rfl
   rw[this];simpa using Sim.v (B:=B) H (s:= .bool (if neq then false else true)) rfl
  ·rename_i i w o e1 e2;split at e
   ·rename_i hl;simp only[zuE,zuH] at e;obtain⟨rfl,rfl⟩:=e;obtain⟨t,z,cs,hc⟩:=jG hl;obtain⟨v1,_,h1,h2⟩:=h.odv e1;obtain⟨v2,_,h3,h4⟩:=h.odv e2;have:=h2.ptr hc;subst this;simp only[RV] at h4;obtain⟨rfl,_⟩:=h4;simp only[opE,h1,h3,zet,zvb];have:Y9 neq false=FV.s (.bool neq):=by cases neq<;>rfl
    rw[this];exact Sim.v H rfl
   ·cases e
  ·rename_i cs o e1 e2;simp only[zuE,zuH] at e;obtain⟨rfl,rfl⟩:=e;obtain⟨v1,_,h1,h2⟩:=h.odv e1;obtain⟨v2,_,h3,h4⟩:=h.odv e2;simp only[RV] at h2 h4;obtain⟨j,q,t,vs,rfl,_⟩:=h2;obtain⟨rfl,_⟩:=h4;simp only[opE,h1,h3,zet,zvb];have:Y9 neq false=FV.s (.bool neq):=by cases neq<;>rfl
   rw[this];exact Sim.v H rfl
  ·rename_i i w o e1 e2;split at e
   ·rename_i hl;simp only[zuE,zuH] at e;obtain⟨rfl,rfl⟩:=e;obtain⟨t,z,cs,hc⟩:=jG hl;obtain⟨v1,_,h1,h2⟩:=h.odv e1;obtain⟨v2,_,h3,h4⟩:=h.odv e2;have:=h4.ptr hc;subst this;simp only[RV] at h2;obtain⟨rfl,_⟩:=h2;simp only[opE,h1,h3,zet,zvb];have:Y9 neq false=FV.s (.bool neq):=by cases neq<;>rfl
    rw[this];exact Sim.v H rfl
   ·cases e
  ·cases e
 |eqs neq offs x y=>
  simp only[opX] at e;split at e
  ·rename_i xs ys e1 e2;obtain⟨u,h1,h2⟩:=map_some e;obtain⟨rfl,rfl⟩:=by simpa using h2
   obtain⟨l1,h3,h4⟩:=h.odg e1;obtain⟨l2,h5,h6⟩:=h.odg e2;simp only[opE,h3,h5,zb5 h4 h6 h1,zvb];exact Sim.v H rfl
  ·cases e
 |un op x=>
  simp only[opX] at e;split at e
  ·rename_i s e1;obtain⟨u,h1,h2⟩:=map_some e;obtain⟨rfl,rfl⟩:=by simpa using h2
   simp only[opE,(h.oda e1).1,h1,zvb];exact Sim.v H (un_nl h1)
  ·cases e
 |toi k x=>
  simp only[opX] at e;split at e
  ·rename_i k' n e1;simp only[zuE,zuH] at e;obtain⟨rfl,rfl⟩:=e;simp only[opE,(h.oda e1).1];exact Sim.v H rfl
  ·cases e
 |itof k x=>
  simp only[opX] at e;split at e
  ·rename_i k' n e1;simp only[zuE,zuH] at e;obtain⟨rfl,rfl⟩:=e;simp only[opE,(h.oda e1).1];exact Sim.v H rfl
  ·cases e
 |b2s t x=>
  simp only[opX] at e;split at e
  ·rename_i n cs e1;obtain⟨l,h1,h2⟩:=map_some e;obtain⟨rfl,rfl⟩:=by simpa using h2
   obtain⟨u,e2,e3⟩:=zuU.1 e1;obtain⟨u',h3,h4⟩:=h.od e2;obtain⟨c,vs,rfl,_,h5,h6⟩:=RF.el H h4 e3;have h7:odS b x=some c:=by unfold odS;rw[h3]
   simp only[opE,h7,h5,zwr,zeE h6 h1];exact Sim.v H rfl
  ·cases e
 |mkf f first caps=>
  simp only[opX] at e;split at e
  ·rename_i l m e1 e2;split at e
   ·rename_i hf;simp only[zuP] at hf;simp only[zuE,zuH] at e;obtain⟨rfl,rfl⟩:=e;obtain⟨l',h1,h2⟩:=h.odl e1;obtain⟨m',h3,h4⟩:=h.odl e2;simp only[opE,h1,h3,JY h2 hf.1,JY h4 hf.2,Bool.and_self,if_true];refine⟨_,_,rfl,rfl,(zqX H h2 h4).1,Yx _ _ _ _,?_⟩;simp only[RF];exact ztL
   ·cases e
  ·cases e
 |sli t z x lo hi=>
  simp only[opX] at e;split at e
  ·rename_i e1;split at e
   ·rename_i e2 e3;simp only[zuE,zuH] at e;obtain⟨rfl,rfl⟩:=e;obtain⟨v1,_,h1,h2⟩:=h.odv e1;simp only[RV] at h2;obtain⟨rfl,_⟩:=h2;simp only[opE,h1,h.bound e2,h.bound e3];exact Sim.v H rfl
   ·cases e
  ·rename_i i w o n e1;split at e
   ·rename_i l u t' z' cs e2 e3 hc;split at e
    ·rename_i ht;subst ht;split at e
     ·rename_i hlu;split at e
      ·rename_i hun;split at e
       ·cases e
       ·rename_i hw;simp only[zuE,zuH] at e;obtain⟨rfl,rfl⟩:=e;obtain⟨v1,_,h1,h2⟩:=h.odv e1;rcases h2.sl hc with⟨rfl,_⟩|⟨h3,p,rfl⟩
        ·exact absurd rfl hw
        ·obtain⟨vs,h5,h6,_⟩:=H.own hc h3;have h7:cellsOf R.h (R.φ i)=some (t',vs):=by rw[zV,h5];rfl
         simp only[opE,h1,h.bound e2,h.bound e3,h7,if_true];rw[zuO hlu,zuO hun];refine Sim.same H ?_;simp only[RF];simp only[RV] at h2⊢;exact⟨h2.1,h2.2.1,rfl,fun _=> .inr ⟨h3,_,rfl⟩⟩
      ·cases e
     ·cases e
    ·cases e
   ·cases e
  ·rename_i t' z' n cs e1;split at e
   ·rename_i l u e2 e3;split at e
    ·cases e
    ·rename_i hn;split at e
     ·rename_i ht;obtain⟨rfl,rfl⟩:=ht;split at e
      ·rename_i hlu;split at e
       ·rename_i hun;simp only[zuE,zuH] at e;obtain⟨rfl,rfl⟩:=e;obtain⟨v1,_,h1,h2⟩:=h.odv e1;simp only[RV] at h2;rcases h2 with⟨h3,_⟩|⟨j,p,o,vs,rfl,h4,h5,h6,h7,h8⟩
        ·exact absurd h3 hn
        ·simp only[opE,h1,h.bound e2,h.bound e3,h5,if_true];rw[zuO hlu,zuO hun];refine Sim.same H ?_;simp only[RF,RV];have q1:(o+l+(u-l))*z'≤(o+n)*z':=zvf _ (by omega);have q2:(l+(u-l))*z'≤n*z':=zvf _ (by omega);rw[zvv] at q2;have q3:(o+l)*z'=o*z'+l*z':=zvv _ _ _;refine .inr ⟨j,_,_,vs,rfl,h4,h5,?_,zvz q1 h7,?_⟩
         ·rw[zu0,zvQ,h6];omega
         ·have:=(h8.drop (l*z')).take ((u-l)*z');rw[zw0,zwZ,zwI,zvu (by omega)] at this;rw[q3];exact this
       ·cases e
      ·cases e
     ·cases e
   ·cases e
  ·cases e
 |subs x lo hi=>
  simp only[opX] at e;split at e
  ·rename_i s e1;split at e
   ·rename_i l u e2 e3;split at e
    ·rename_i h1;split at e
     ·rename_i h2;simp only[zuE,zuH] at e;obtain⟨rfl,rfl⟩:=e;simp only[opE,(h.oda e1).1,h.bound e2,h.bound e3];rw[zuO h1,zuO h2];exact Sim.v H rfl
     ·cases e
    ·cases e
   ·cases e
  ·cases e
 |sli0 x=>
  simp only[opX] at e;split at e
  ·rename_i e1;simp only[zuE,zuH] at e;obtain⟨rfl,rfl⟩:=e;obtain⟨v1,_,h1,h2⟩:=h.odv e1;simp only[RV] at h2;obtain⟨rfl,_⟩:=h2;simp only[opE,h1];exact Sim.v H rfl
  ·rename_i i w o n e1;split at e
   ·rename_i hl;simp only[zuE,zuH] at e;obtain⟨rfl,rfl⟩:=e;obtain⟨t,z,cs,hc⟩:=jG hl;obtain⟨v1,_,h1,h2⟩:=h.odv e1;rcases h2.sl hc with⟨_,_,_,rfl|⟨j,p,q,rfl⟩⟩|⟨_,p,rfl⟩
    ·simp only[opE,h1];exact Sim.same H (by simp[RF,RV])
    ·simp only[opE,h1];exact Sim.same H (by simp[RF,RV])
    ·simp only[opE,h1];exact Sim.same H (by simp[RF,RV])
   ·cases e
  ·rename_i e1;simp only[zuE,zuH] at e;obtain⟨rfl,rfl⟩:=e;obtain⟨v1,_,h1,h2⟩:=h.odv e1;simp only[RV] at h2;rcases h2 with rfl|⟨i,p,o,rfl⟩
   ·simp only[opE,h1];exact Sim.same H (by simp[RF,RV])
   ·simp only[opE,h1];exact Sim.same H (by simp[RF,RV])
  ·rename_i t z n cs e1;simp only[zuE,zuH] at e;obtain⟨rfl,rfl⟩:=e;obtain⟨v1,_,h1,h2⟩:=h.odv e1;simp only[RV] at h2;rcases h2 with⟨_,_,rfl|⟨i,p,o,rfl⟩⟩|⟨j,p,o,vs,rfl,_⟩
   ·simp only[opE,h1];exact Sim.same H (by simp[RF,RV])
   ·simp only[opE,h1];exact Sim.same H (by simp[RF,RV])
   ·simp only[opE,h1];exact Sim.same H (by simp[RF,RV])
  ·cases e
 |fad off x=>
  simp only[opX] at e;split at e
  ·rename_i i w o e1;split at e
   ·rename_i hl;simp only[zuE,zuH] at e;obtain⟨rfl,rfl⟩:=e;obtain⟨t,z,cs,hc⟩:=jG hl;obtain⟨v',_,h2,h3⟩:=h.odv e1;have:=h3.ptr hc;subst this;simp only[opE,h2];refine Sim.same H ?_;simp only[RF];simp only[RV] at h3⊢;exact⟨h3.1,h3.2.1,fun _=>by first|rfl|trivial⟩
   ·cases e
  ·rename_i cs o e1;simp only[zuE,zuH] at e;obtain⟨rfl,rfl⟩:=e;obtain⟨v',_,h2,h3⟩:=h.odv e1;simp only[RV] at h3;obtain⟨j,q,t,vs,rfl,h4⟩:=h3;simp only[opE,h2];refine Sim.same H ?_;simp only[RF,RV];exact⟨j,q,t,vs,by rw[zwd],h4⟩
  ·cases e
 |fld agg off n x=>
  simp only[opX] at e;split at e
  ·rename_i l e1;obtain⟨m,h1,h2⟩:=h.odg e1;simp only[opE,h1];cases agg with
   |true=>
    simp only[if_true] at e⊢;split at e
    ·rename_i hl;simp only[zuE,zuH] at e;obtain⟨rfl,rfl⟩:=e;rw[zuO (by rw[←h2.len];exact hl)];exact Sim.same H (by simp only[RF];exact(h2.drop _).take _)
    ·cases e
   |false=>
    simp only[zva,if_false] at e⊢;split at e
    ·rename_i u hu;simp only[zuE,zuH] at e;obtain⟨rfl,rfl⟩:=e;obtain⟨y,h3,h4⟩:=h2.get hu;simp only[h3];exact Sim.same H (by simp only[RF];exact h4)
    ·cases e
  ·cases e
 |iad t z x i=>
  simp only[opX] at e;split at e
  ·rename_i k' k e2;obtain⟨p,e3,e4⟩:=map_some e;simp only[zuH] at e4;obtain⟨rfl,rfl⟩:=e4;obtain⟨u,e5,e6⟩:=zuU.1 e3;obtain⟨u',h1,h2⟩:=h.od e5;obtain⟨j,q,o,n,vs,rfl,h3,h4,h5,h6⟩:=h2.iad H e6;have h7:odS b x=some (.sl j q o n):=by unfold odS;rw[h1]
   simp only[opE,h7,(h.oda e2).1,h3,if_true];rw[zuO h4,zuO h5];exact Sim.same H (by simp only[RF];exact h6)
  ·cases e
 |idx x i=>
  simp only[opX] at e;split at e
  ·rename_i s k' k e1 e2;split at e
   ·rename_i h0;split at e
    ·rename_i c hc;simp only[zuE,zuH] at e;obtain⟨rfl,rfl⟩:=e;simp only[opE,(h.oda e1).1,(h.oda e2).1];rw[zuO h0];simp only[hc];exact Sim.v H rfl
    ·cases e
   ·cases e
  ·cases e
 |ext x i=>
  simp only[opX] at e;split at e
  ·rename_i l e1;split at e
   ·rename_i u hu;simp only[zuE,zuH] at e;obtain⟨rfl,rfl⟩:=e;obtain⟨y,h1,h2⟩:=h.od e1;obtain⟨m,rfl,h3⟩:=h2.tup_inv;obtain⟨y,h4,h5⟩:=h3.get hu;simp only[opE,h1,h4];exact Sim.same H h5
   ·cases e
  ·cases e
 |len x=>
  simp only[opX] at e;split at e
  ·rename_i n e1;simp only[zuE,zuH] at e;obtain⟨rfl,rfl⟩:=e;obtain⟨u,e5,e6⟩:=zuU.1 e1;obtain⟨u',h1,h2⟩:=h.od e5;obtain⟨c,rfl,h3⟩:=h2.len e6;have h7:odS b x=some c:=by unfold odS;rw[h1]
   simp only[opE,h7,h3,zvb];exact Sim.v H rfl
  ·cases e
 |slen x=>
  simp only[opX] at e;split at e
  ·rename_i s e1;simp only[zuE,zuH] at e;obtain⟨rfl,rfl⟩:=e;simp only[opE,(h.oda e1).1];exact Sim.v H rfl
  ·cases e
 |app t z y x y'=>
  simp only[opX] at e;split at e
  ·rename_i u n new e1 e2;obtain⟨w,e3,e4⟩:=zuU.1 e2;obtain⟨u',h1,h2⟩:=h.od e1;obtain⟨w',h3,h4⟩:=h.od e3;obtain⟨c,vs,rfl,h5,h6,h7⟩:=RF.el H h4 e4;obtain⟨d,rfl,h8⟩:=zg6 (B:=B) H h2 h7 (fun i w' o m hx hn=>hB i (by
    subst hx;simp only[wrX,e1,e2];rw[zuQ hn])) e
   have q1:odS b x=some d:=by unfold odS;rw[h1]
   have q2:odS b y'=some c:=by unfold odS;rw[h3]
   simp only[opE,q1,q2,h5,h6];exact h8
  ·cases e
 |apps t y x s=>
  simp only[opX] at e;split at e
  ·rename_i u c e1 e2;obtain⟨u',h1,h2⟩:=h.od e1;obtain⟨d,rfl,h8⟩:=zg6 (B:=B) H h2 (RVs.v zoQ) (fun i w' o m hx hn=>hB i (by
    subst hx;simp only[wrX,e1,e2];rw[zuQ hn])) e
   have q1:odS b x=some d:=by unfold odS;rw[h1]
   simp only[opE,q1,(h.oda e2).1];exact h8
  ·cases e
 |cut t z x k=>
  simp only[opX] at e;split at e
  ·rename_i u q m e1 e2;split at e
   ·rename_i h0;obtain⟨u',h1,h2⟩:=h.od e1;obtain⟨d,rfl,h8⟩:=zlx (B:=B) H h2 (fun i w' o m hx=>hB i (by subst hx;simp only[wrX,e1])) e;have q1:odS b x=some d:=by unfold odS;rw[h1]
    simp only[opE,q1,(h.oda e2).1];rw[zuO h0];exact h8
   ·cases e
  ·cases e
 |iaa n z x i=>
  simp only[opX] at e;split at e
  ·rename_i j w o q k e1 e2;split at e
   ·rename_i h0;split at e
    ·rename_i h1;split at e
     ·rename_i hl;simp only[zuE,zuH] at e;obtain⟨rfl,rfl⟩:=e;obtain⟨t,z',cs,hc⟩:=jG hl;obtain⟨v',_,h2,h3⟩:=h.odv e1;have:=h3.ptr hc;subst this;simp only[opE,h2,(h.oda e2).1];rw[zuO h0,zuO h1];refine Sim.same H ?_;simp only[RF];simp only[RV] at h3⊢;exact⟨h3.1,h3.2.1,fun _=>by first|rfl|trivial⟩
     ·cases e
    ·cases e
   ·cases e
  ·cases e
 |copy t z x y=>
  simp only[opX] at e;split at e
  ·rename_i i w o m n new e1 e2;split at e
   ·rename_i t' z' cs hc;split at e
    ·rename_i hh;obtain⟨rfl,rfl,h0,h1⟩:=hh;simp only[zuE,zuH] at e;obtain⟨rfl,rfl⟩:=e;obtain⟨u,e3,e4⟩:=zuU.1 e2;obtain⟨u',h3,h4⟩:=h.od e3;obtain⟨c,vs,rfl,h5,h6,h7⟩:=RF.el H h4 e4;obtain⟨v1,_,h8,h9⟩:=h.odv e1;have q2:odS b y=some c:=by unfold odS;rw[h3]
     rcases h9.sl hc with⟨rfl,_⟩|⟨g1,p,rfl⟩
     ·simp at h1
     ·obtain⟨ws,k1,k2,k3⟩:=zcK (B:=B) (o:=o*z') H hc h1 (hB i (by simp only[wrX,e1])) (h7.take (min n m*z'));simp only[opE,h8,q2,k1,h5,h6,if_true];rw[zuO (by omega)];exact k3 _ _ (RF.sc rfl)
    ·cases e
   ·cases e
  ·cases e
 |clr t zero x=>
  simp only[opX] at e;split at e
  ·rename_i e1;simp only[zuE,zuH] at e;obtain⟨rfl,rfl⟩:=e;obtain⟨v1,_,h1,h2⟩:=h.odv e1;simp only[RV] at h2;obtain⟨rfl,_⟩:=h2;simp only[opE,h1];exact Sim.same H (by simp[RF,RFs])
  ·rename_i i w o n e1;split at e
   ·rename_i t' z' cs hc;split at e
    ·rename_i hh;obtain⟨hz,rfl,rfl,h0,h1⟩:=hh;simp only[zuE,zuH] at e;obtain⟨rfl,rfl⟩:=e;obtain⟨v1,_,h8,h9⟩:=h.odv e1;rcases h9.sl hc with⟨rfl,_⟩|⟨g1,p,rfl⟩
     ·simp at h1
     ·obtain⟨ws,k1,k2,k3⟩:=zcK (B:=B) (o:=o*zero.length) H hc h1 (hB i (by simp only[wrX,e1])) (RVs.v (zjO hz n));cases n with
      |zero=>
       simp only[opE,h8];have q:qr ws (o*zero.length) (rep 0 zero)=ws:=rfl;have q2:R.h.set (R.φ i) (.own t' ws)=R.h:=by obtain⟨l,e⟩:=zuJ.1 k1;rw[←e,zw7]
       have:=k3 (.tup []) (.tup []) (by simp[RF,RFs]);rw[q,q2] at this;exact this
      |succ n=>
       simp only[opE,h8,k1,if_true];rw[zuO (by omega)];exact k3 _ _ (by simp[RF,RFs])
    ·cases e
   ·cases e
  ·cases e
 |mn x l=>
  simp only[opX] at e;split at e
  ·rename_i k n vs e1 e2;obtain⟨u,h1,h2⟩:=map_some e;obtain⟨rfl,rfl⟩:=by simpa using h2
   simp only[opE,(h.oda e1).1,h.odla e2,h1,zvb];exact Sim.v H (zn7 h1)
  ·cases e
 |mx x l=>
  simp only[opX] at e;split at e
  ·rename_i k n vs e1 e2;obtain⟨u,h1,h2⟩:=map_some e;obtain⟨rfl,rfl⟩:=by simpa using h2
   simp only[opE,(h.oda e1).1,h.odla e2,h1,zvb];exact Sim.v H (zn5 h1)
  ·cases e
 |re x=>
  simp only[opX] at e;split at e
  ·rename_i e1;simp only[zuE,zuH] at e;obtain⟨rfl,rfl⟩:=e;simp only[opE,(h.oda e1).1];exact Sim.v H rfl
  ·cases e
 |im x=>
  simp only[opX] at e;split at e
  ·rename_i e1;simp only[zuE,zuH] at e;obtain⟨rfl,rfl⟩:=e;simp only[opE,(h.oda e1).1];exact Sim.v H rfl
  ·cases e
 |cplx x y=>
  simp only[opX] at e;split at e
  ·rename_i e1 e2;simp only[zuE,zuH] at e;obtain⟨rfl,rfl⟩:=e;simp only[opE,(h.oda e1).1,(h.oda e2).1];exact Sim.v H rfl
  ·cases e
 |s2b t x=>
  simp only[opX] at e;split at e
  ·rename_i s e1;simp only[zuE,zuH] at e;obtain⟨rfl,rfl⟩:=e;simp only[opE,(h.oda e1).1];refine⟨_,_,rfl,rfl,(QG H (w:=0) (t:=t) (z:=1) (RVs.v zoQ)).1,Yx _ _ _ _,?_⟩;simp only[RF];exact(QH s.size).2
  ·cases e
 |mks t y zero l=>
  simp only[opX] at e;split at e
  ·rename_i n e1;split at e
   ·rename_i h0;split at e
    ·rename_i h1;split at e
     ·rename_i h2;simp only[zuE,zuH] at e;obtain⟨rfl,rfl⟩:=e;simp only[opE,(h.oda e1).1];rw[zuO h0,zuO h1];refine⟨_,_,rfl,rfl,(QG H (w:=0) (t:=t) (z:=zero.length) (RVs.v (zjO h2 _))).1,Yx _ _ _ _,?_⟩;simp only[RF];exact(QH n.toNat).2
     ·cases e
    ·cases e
   ·cases e
  ·cases e
 |_=>simp[opX] at e
def Pk(B:Nat→Prop)(R:XE)(Φ:Ex→XFr→XH→Prop):Ex→Fr→LH→Prop:=fun x fr1 h1=>∃R' fr,R'.h=h1∧HR R'∧Ex2 B R R'∧RFr R' fr fr1∧Φ x fr R'.g
def Ck(C:Nat→Option EF)(B:Nat→Prop)(c:EC)(fr:XFr)(g:XH)(Φ:Ex→XFr→XH→Prop):Prop:=∀R fr1,R.g=g→HR R→RFr R fr fr1→WPk C c fr1 R.h (Pk B R Φ)
def Lp(C:Nat→Option EF)(B:Nat→Prop)(keep:List Nat)(c:EC)(fr:XFr)(g:XH)(Φ:Ex→XFr→XH→Prop):Prop:=∀R fr1,R.g=g→HR R→RFr R fr fr1→WPl C c keep fr1 R.h (Pk B R Φ)
def Cl(C:Nat→Option EF)(W:Nat→Prop)(f:Nat)(args:List XF)(g:XH)(Ψ:XF→XH→Prop):Prop:=
 ∀R args1,R.g=g→HR R→RFs R args args1→WPc C f args1 R.h (fun u1 h1=>∃R' u,R'.h=h1∧HR R'∧Ex2 W R R'∧RF R' u u1∧Ψ u R'.g)
def zb(C:Nat→Option EF)(B:Nat→Prop)(f:Nat)(args:List XF)(g:XH)(Ψ:XF→XH→Prop):Prop:=∃W:Nat→Prop,(∀i,i<g.length→W i→B i)∧Cl C W f args g Ψ
def br(t:Bool)(A B:Prop):Prop:=match t with
 |true=>A
 |false=>B
theorem zp5{A B:Prop}:br true A B=A:=pe
theorem zm6{A B:Prop}:br false A B=B:=pe
theorem zsJ{t:Bool}{A B:Prop}:br (!t) A B=br t B A:=by cases t<;>rfl
theorem zc{t:Bool}{A B:Prop}(ha:t=true→A)(hb:t=false→B):br t A B:=by
 cases t with
 |true=>exact ha rfl
 |false=>exact hb rfl
def isW:EO→Bool
 | .store _ _ _| .app _ _ _ _ _| .apps _ _ _ _| .copy _ _ _ _| .clr _ _ _| .cut _ _ _ _=>true
 |_=>false
def mx(r:Option (XF×XH))(Ψ:XF→XH→Prop):Prop:=match r with
 |some (v,g)=>Ψ v g
 |none=>False
def Ja(g:XH):XF→Option (Option Bool)
 | .s (.v .nils)=>some (some true)
 | .s (.lst _ _ n _)=>if n=0 then some none else some (some false)
 | .s .nl=>some none
 | .s (.sl i w _ _)=>match zL g i w with
   |some (_,_,cs)=>if cs.length=0 then some none else some (some false)
   |none=>none
 |_=>none
def nq(q:Option (Option Bool))(neq:Bool)(g:XH)(Ψ:XF→XH→Prop):Prop:=match q with
 |some (some t)=>Ψ (.s (.v (.bool (if neq then !t else t)))) g
 |some none=>Ψ (.s (.v (.bool true))) g∧Ψ (.s (.v (.bool false))) g
 |none=>False
def ws(C:Nat→Option EF)(B:Nat→Prop)(o:EO)(fr:XFr)(g:XH)(Ψ:XF→XH→Prop):Prop:=
 match o with
 | .call f l=>match zdW fr l with
   |some as=>zb C B f as g Ψ
   |none=>False
 | .callv x l=>match odX fr x,zdW fr l with
   |some (.s (.v (.fn f))),some as=>zb C B f as g Ψ
   |some (.s (.cl i)),some as=>match g[i]? with
    |some (.clo f first caps)=>zb C B f (first++as++caps) g Ψ
    |_=>False
   |_,_=>False
 | .pick c a b=>match odA fr c,odX fr a,odX fr b with
   |some (.bool t),some x,some y=>br t (Ψ x g) (Ψ y g)
   |_,_,_=>False
 | .eqn neq x y=>match odX fr y with
   |some (.s (.v .nils))=>nq ((odX fr x).bind (Ja g)) neq g Ψ
   |_=>False
 |o=>if isW o then(∀i,wrX fr g o=some i→B i)∧mx (opX fr g o) Ψ else mx (opX fr g o) Ψ
def j0:XFr→Nat→Bool→XFr
 |[],_,_=>[]
 |(m,v)::r,n,t=>if n=m then(m,some (.s (.v (.bool t))))::r else(m,v)::j0 r n t
theorem zb1{s:Nat}{t:Bool}:∀{a:XFr},Zn a s=some (.s (.v (.bool t)))→j0 a s t=a
 |[],_=>rfl
 |(m,v)::r,h=>by
  unfold Zn at h;unfold j0;by_cases e:s=m
  ·rw[zuO e] at h⊢;rw[h]
  ·rw[zuQ e] at h⊢;rw[zb1 h]
def wo(C:Nat→Option EF)(B:Nat→Prop):List EG→XFr→XH→(XFr→XH→Prop)→Prop
 |[],fr,g,Φ=>Φ fr g
 |x::l,fr,g,Φ=>match x.guard with
  |none=>ws C B x.op fr g (fun v g'=>wo C B l (jT fr x.dst (some v)) g' Φ)
  |some (s,b)=>match Zn fr s with
   |some (.s (.v (.bool t)))=>match b with
    |true=>br t (ws C B x.op (j0 fr s true) g (fun v g'=>wo C B l (jT (j0 fr s true) x.dst (some v)) g' Φ)) (wo C B l (jT (j0 fr s false) x.dst (some (.tup []))) g Φ)
    |false=>br t (wo C B l (jT (j0 fr s true) x.dst (some (.tup []))) g Φ) (ws C B x.op (j0 fr s false) g (fun v g'=>wo C B l (jT (j0 fr s false) x.dst (some v)) g' Φ))
   |some (.tup [])=>wo C B l (jT fr x.dst (some (.tup []))) g Φ
   |_=>False
def KPx(C:Nat→Option EF)(B:Nat→Prop)(l:List EG)(Φ:XFr→XH→Prop)(fr:XFr)(d:Option Nat):XF→XH→Prop:=fun v g=>wo C B l (jT fr d (some v)) g Φ
def gd(C:Nat→Option EF)(B:Nat→Prop)(x:Option XF)(s:Nat)(b:Bool)(d:Option Nat)(o:EO)(l:List EG)(fr:XFr)(g:XH)(Φ:XFr→XH→Prop):Prop:=match x with
 |some (.s (.v (.bool t)))=>match b with
  |true=>br t (ws C B o (j0 fr s true) g (KPx C B l Φ (j0 fr s true) d)) (wo C B l (jT (j0 fr s false) d (some (.tup []))) g Φ)
  |false=>br t (wo C B l (jT (j0 fr s true) d (some (.tup []))) g Φ) (ws C B o (j0 fr s false) g (KPx C B l Φ (j0 fr s false) d))
 |some (.tup [])=>wo C B l (jT fr d (some (.tup []))) g Φ
 |_=>False
def pk(c:Option SV)(x y:Option XF)(g:XH)(Ψ:XF→XH→Prop):Prop:=match c,x,y with
 |some (.bool t),some x,some y=>br t (Ψ x g) (Ψ y g)
 |_,_,_=>False
def ca'(C:Nat→Option EF)(B:Nat→Prop)(f:Nat)(as:Option (List XF))(g:XH)(Ψ:XF→XH→Prop):Prop:=match as with
 |some as=>zb C B f as g Ψ
 |none=>False
def cv'(C:Nat→Option EF)(B:Nat→Prop)(x:Option XF)(as:Option (List XF))(g:XH)(Ψ:XF→XH→Prop):Prop:=match x,as with
 |some (.s (.v (.fn f))),some as=>zb C B f as g Ψ
 |some (.s (.cl i)),some as=>match g[i]? with
  |some (.clo f first caps)=>zb C B f (first++as++caps) g Ψ
  |_=>False
 |_,_=>False
def KOx(keep:List Nat)(Φ:Ex→XFr→XH→Prop):XFr→XH→Prop:=fun fr g=>Φ .normal (yS keep fr) g
def KBx(id:Nat)(Φ:Ex→XFr→XH→Prop):Ex→XFr→XH→Prop:=fun x fr g=>match x with
 | .exit id'=>if id'=id then Φ .normal fr g else Φ (.exit id') fr g
 |x=>Φ x fr g
def KLx(P:XFr→XH→Prop)(keep:List Nat)(Φ:Ex→XFr→XH→Prop):Ex→XFr→XH→Prop:=fun x fr g=>match x with
 | .normal=>P (yS keep fr) g
 |x=>Φ x fr g
def wk(C:Nat→Option EF)(B:Nat→Prop):EC→XFr→XH→(Ex→XFr→XH→Prop)→Prop
 | .skip,fr,g,Φ=>Φ .normal fr g
 | .label _,fr,g,Φ=>Φ .normal fr g
 | .ops l keep,fr,g,Φ=>wo C B l fr g (KOx keep Φ)
 | .draw l ps keep,fr,g,Φ=>match ps with
   |[]=>wo C B l fr g (KOx keep Φ)
   |ps=>Ck C B (.draw l ps keep) fr g Φ
 | .seq a b,fr,g,Φ=>wk C B a fr g (fun x fr g=>match x with
   | .normal=>wk C B b fr g Φ
   |x=>Φ x fr g)
 | .cond c a b,fr,g,Φ=>match odA fr c with
   |some (.bool t)=>br t (wk C B a fr g Φ) (wk C B b fr g Φ)
   |_=>False
 | .block id b,fr,g,Φ=>wk C B b fr g (KBx id Φ)
 | .loop keep b,fr,g,Φ=>Lp C B keep b (yS keep fr) g Φ
 | .exit id keep,fr,g,Φ=>Φ (.exit id) (yS keep fr) g
 | .ret keep,fr,g,Φ=>Φ .ret (yS keep fr) g
 | .goto l keep,fr,g,Φ=>Φ (.goto l) (yS keep fr) g
 | .scope b,fr,g,Φ=>Ck C B (.scope b) fr g Φ
 | .ext n m f,fr,g,Φ=>Ck C B (.ext n m f) fr g Φ
def cd(C:Nat→Option EF)(B:Nat→Prop)(c:Option SV)(a b:EC)(fr:XFr)(g:XH)(Φ:Ex→XFr→XH→Prop):Prop:=match c with
 |some (.bool t)=>br t (wk C B a fr g Φ) (wk C B b fr g Φ)
 |_=>False
def Kx(C:Nat→Option EF)(B:Nat→Prop)(b:EC)(Φ:Ex→XFr→XH→Prop):Ex→XFr→XH→Prop:=fun x fr g=>match x with
 | .normal=>wk C B b fr g Φ
 |x=>Φ x fr g
section
variable {C:Nat→Option EF} {B:Nat→Prop} {Φ:Ex→XFr→XH→Prop} {fr:XFr} {g:XH}
theorem zsA{b:EC}:Kx C B b Φ .ret fr g=Φ .ret fr g:=pe
theorem zpU{b:EC}{id:Nat}:Kx C B b Φ (.exit id) fr g=Φ (.exit id) fr g:=pe
theorem zpV{b:EC}{l:Nat}:Kx C B b Φ (.goto l) fr g=Φ (.goto l) fr g:=pe
theorem ziJ{id:Nat}:KBx id Φ .normal fr g=Φ .normal fr g:=pe
theorem zpN{id:Nat}:KBx id Φ .ret fr g=Φ .ret fr g:=pe
theorem zmO{id id':Nat}:KBx id Φ (.exit id') fr g=if id'=id then Φ .normal fr g else Φ (.exit id') fr g:=pe
theorem zmP{id l:Nat}:KBx id Φ (.goto l) fr g=Φ (.goto l) fr g:=pe
theorem ziK{P:XFr→XH→Prop}{keep:List Nat}:KLx P keep Φ .normal fr g=P (yS keep fr) g:=pe
theorem zpQ{P:XFr→XH→Prop}{keep:List Nat}:KLx P keep Φ .ret fr g=Φ .ret fr g:=pe
theorem zmQ{P:XFr→XH→Prop}{keep:List Nat}{id:Nat}:KLx P keep Φ (.exit id) fr g=Φ (.exit id) fr g:=pe
theorem zmR{P:XFr→XH→Prop}{keep:List Nat}{l:Nat}:KLx P keep Φ (.goto l) fr g=Φ (.goto l) fr g:=pe
theorem cv_fn{f:Nat}{as:List XF}{Ψ:XF→XH→Prop}:cv' C B (some (.s (.v (.fn f)))) (some as) g Ψ=zb C B f as g Ψ:=pe
theorem cv_cl{i:Nat}{as:List XF}{Ψ:XF→XH→Prop}:cv' C B (some (.s (.cl i))) (some as) g Ψ=match g[i]? with
 |some (.clo f first caps)=>zb C B f (first++as++caps) g Ψ
 |_=>False:=pe
theorem zsw{keep:List Nat}:KOx keep Φ fr g=Φ .normal (yS keep fr) g:=pe
end
theorem zcv{t:Bool}{A A' B B':Prop}(w:br t A B)(ha:A→A')(hb:B→B'):br t A' B':=by
 cases t with
 |true=>exact ha w
 |false=>exact hb w
theorem zkG{r:Option (XF×XH)}{Φ Ψ:XF→XH→Prop}(w:mx r Φ)(h:∀v g,Φ v g→Ψ v g):mx r Ψ:=by
 unfold mx at w⊢;split at w
 ·exact h _ _ w
 ·exact w.elim
theorem Cl.mono{C:Nat→Option EF}{W:Nat→Prop}{f:Nat}{args:List XF}{g:XH}{Φ Ψ:XF→XH→Prop}(w:Cl C W f args g Φ)(h:∀u g',Φ u g'→Ψ u g'):Cl C W f args g Ψ:=by rintro R args1 e H ra;refine(w R args1 e H ra).mono ?_;rintro u1 h1 ⟨R',u,a1,a2,a3,a4,a5⟩;exact⟨R',u,a1,a2,a3,a4,h _ _ a5⟩
theorem zb.mono{C:Nat→Option EF}{B:Nat→Prop}{f:Nat}{args:List XF}{g:XH}{Φ Ψ:XF→XH→Prop}(w:zb C B f args g Φ)(h:∀u g',Φ u g'→Ψ u g'):zb C B f args g Ψ:=by obtain⟨W,h1,h2⟩:=w;exact⟨W,h1,h2.mono h⟩
theorem Ck.mono{C:Nat→Option EF}{B:Nat→Prop}{c:EC}{fr:XFr}{g:XH}{Φ Ψ:Ex→XFr→XH→Prop}(w:Ck C B c fr g Φ)(h:∀x fr g,Φ x fr g→Ψ x fr g):Ck C B c fr g Ψ:=by intro R fr1 e H r;refine(w R fr1 e H r).mono ?_;rintro x f1 h1 ⟨R',f,a1,a2,a3,a4,a5⟩;exact⟨R',f,a1,a2,a3,a4,h _ _ _ a5⟩
theorem Lp.mono{C:Nat→Option EF}{B:Nat→Prop}{keep:List Nat}{c:EC}{fr:XFr}{g:XH}{Φ Ψ:Ex→XFr→XH→Prop}(w:Lp C B keep c fr g Φ)(h:∀x fr g,Φ x fr g→Ψ x fr g):Lp C B keep c fr g Ψ:=by intro R fr1 e H r;refine(w R fr1 e H r).mono ?_;rintro x f1 h1 ⟨R',f,a1,a2,a3,a4,a5⟩;exact⟨R',f,a1,a2,a3,a4,h _ _ _ a5⟩
theorem zqZ{q:Option (Option Bool)}{neq:Bool}{g:XH}{Φ Ψ:XF→XH→Prop}(w:nq q neq g Φ)(h:∀v g,Φ v g→Ψ v g):nq q neq g Ψ:=by
 unfold nq at w⊢;split at w
 ·exact h _ _ w
 ·exact⟨h _ _ w.1,h _ _ w.2⟩
 ·exact w.elim
theorem zg3{C:Nat→Option EF}{B:Nat→Prop}{o:EO}{fr:XFr}{g:XH}{Φ Ψ:XF→XH→Prop}(w:ws C B o fr g Φ)(h:∀u g',Φ u g'→Ψ u g'):ws C B o fr g Ψ:=by
 cases o<;>simp only[ws] at w⊢<;>first
  |(split at w
    ·exact zb.mono w h
    ·exact w.elim)
  |(split at w
    ·exact zb.mono w h
    ·split at w
     ·exact zb.mono w h
     ·exact w.elim
    ·exact w.elim)
  |(split at w
    ·exact zcv w (h _ _) (h _ _)
    ·exact w.elim)
  |(split at w
    ·exact zqZ w h
    ·exact w.elim)
  |(simp only[isW,zva,if_false] at w⊢;exact zkG w h)
  |(simp only[isW,if_true] at w⊢;exact⟨w.1,zkG w.2 h⟩)
theorem Yq{C:Nat→Option EF}{B:Nat→Prop}:∀{l:List EG} {fr:XFr} {g:XH} {Φ Ψ:XFr→XH→Prop},wo C B l fr g Φ→(∀fr g,Φ fr g→Ψ fr g)→wo C B l fr g Ψ
 |[],fr,g,Φ,Ψ,w,h=>h _ _ w
 |x::l,fr,g,Φ,Ψ,w,h=>by
  simp only[wo] at w⊢;split at w
  ·exact zg3 w fun _ _ w=>Yq w h
  ·split at w
   ·split at w
    ·exact zcv w (fun w=>zg3 w fun _ _ w=>Yq w h) (fun w=>Yq w h)
    ·exact zcv w (fun w=>Yq w h) (fun w=>zg3 w fun _ _ w=>Yq w h)
   ·exact Yq w h
   ·exact w.elim
theorem ZA{C:Nat→Option EF}{B:Nat→Prop}:∀{c:EC} {fr:XFr} {g:XH} {Φ Ψ:Ex→XFr→XH→Prop},wk C B c fr g Φ→(∀x fr g,Φ x fr g→Ψ x fr g)→wk C B c fr g Ψ
 | .skip,_,_,_,_,w,h=>h _ _ _ w
 | .label _,_,_,_,_,w,h=>h _ _ _ w
 | .ops _ _,_,_,_,_,w,h=>Yq w fun _ _=>h _ _ _
 | .draw _ [] _,_,_,_,_,w,h=>Yq w fun _ _=>h _ _ _
 | .draw _ (_::_) _,_,_,_,_,w,h=>Ck.mono w h
 | .seq a b,_,_,_,_,w,h=>ZA (c:=a) w fun x _ _ w=>by
   cases x with
   |normal=>exact ZA (c:=b) w h
   |exit id=>exact h _ _ _ w
   |goto l=>exact h _ _ _ w
   |ret=>exact h _ _ _ w
 | .cond c a b,fr,g,Φ,Ψ,w,h=>by
   simp only[wk] at w⊢;split at w
   ·exact zcv w (fun w=>ZA (c:=a) w h) (fun w=>ZA (c:=b) w h)
   ·exact w.elim
 | .block id b,_,_,_,_,w,h=>ZA (c:=b) w fun x _ _ w=>by
   cases x with
   |exit id'=>
    simp only[KBx] at w⊢;split at w
    ·rename_i e;rw[zuO e];exact h _ _ _ w
    ·rename_i e;rw[zuQ e];exact h _ _ _ w
   |normal=>exact h _ _ _ w
   |goto l=>exact h _ _ _ w
   |ret=>exact h _ _ _ w
 | .loop _ _,_,_,_,_,w,h=>Lp.mono w h
 | .exit _ _,_,_,_,_,w,h=>h _ _ _ w
 | .ret _,_,_,_,_,w,h=>h _ _ _ w
 | .goto _ _,_,_,_,_,w,h=>h _ _ _ w
 | .scope _,_,_,_,_,w,h=>Ck.mono w h
 | .ext _ _ _,_,_,_,_,w,h=>Ck.mono w h
section
variable {C:Nat→Option EF} {B:Nat→Prop} {Φ:Ex→XFr→XH→Prop} {fr:XFr} {g:XH}
end
theorem Pk.trans{B:Nat→Prop}{R R':XE}{Φ:Ex→XFr→XH→Prop}(x:Ex2 B R R'){e:Ex}{fr:Fr}{h:LH}:Pk B R' Φ e fr h→Pk B R Φ e fr h:=by rintro⟨R2,fr2,h1,h2,h3,h4⟩;exact⟨R2,fr2,h1,h2,x.trans h3,h4⟩
section
variable {C:Nat→Option EF} {B:Nat→Prop}
theorem zc1{R:XE}(H:HR R){f:Nat}{args:List XF}{args1:List FV}{Ψ:XF→XH→Prop}(ra:RFs R args args1)(w:zb C B f args R.g Ψ):WPc C f args1 R.h (fun u1 h1=>∃R' u,R'.h=h1∧HR R'∧Ex2 B R R'∧RF R' u u1∧Ψ u R'.g):=by obtain⟨W,h1,h2⟩:=w;refine(h2 R args1 rfl H ra).mono ?_;rintro u1 h' ⟨R',u,a1,a2,a3,a4⟩;exact⟨R',u,a1,a2,a3.wide fun i hi=>h1 i hi,a4⟩
theorem RFs.app{R:XE}:∀{a:List XF} {b:List FV} {c:List XF} {d:List FV},RFs R a b→RFs R c d→RFs R (a++c) (b++d)
 |[],[],_,_,_,h=>h
 |a::r,b::s,c,d,h,h2=>by
  simp only[RFs] at h;simp only[zv5,RFs];exact⟨h.1,RFs.app h.2 h2⟩
 |[],_::_,_,_,h,_=>by simp[RFs] at h
 |_::_,[],_,_,h,_=>by simp[RFs] at h
theorem zkN{a:XFr}{g:XH}{o:EO}(h:isW o=false):wrX a g o=none:=by
 cases o<;>first|rfl|(simp[isW] at h)
theorem zo8{R:XE}(H:HR R){a:XFr}{b:Fr}(h:RFr R a b){o:EO}{Ψ:XF→XH→Prop}(w:ws C B o a R.g Ψ):WPs C o b R.h (fun u1 h1=>∃R' u,R'.h=h1∧HR R'∧Ex2 B R R'∧RF R' u u1∧Ψ u R'.g):=by
 have key:(∀i,wrX a R.g o=some i→B i)→jA o=false→mx (opX a R.g o) Ψ→WPs C o b R.h (fun u1 h1=>∃R' u,R'.h=h1∧HR R'∧Ex2 B R R'∧RF R' u u1∧Ψ u R'.g):=fun hB hc hm=>by
  unfold mx at hm;split at hm
  ·rename_i v g e;obtain⟨R',v',h1,h2,h3,h4,h5⟩:=ztR (B:=B) H h hB e;exact(zo5 hc h1).2 ⟨R',v,rfl,h3,h4,h5,h2▸hm⟩
  ·exact hm.elim
 cases o with
 |call f l=>
  simp only[ws] at w;split at w
  ·rename_i as e;obtain⟨as',h1,h2⟩:=h.odl e;rw[zo4 h1];exact zc1 H h2 w
  ·exact w.elim
 |callv x l=>
  simp only[ws] at w;split at w
  ·rename_i f as e1 e2;obtain⟨as',h1,h2⟩:=h.odl e2;obtain⟨v,_,h3,h4⟩:=h.odv e1;simp only[RV] at h4;obtain⟨rfl,_⟩:=h4;obtain⟨u,h',h5,h6⟩:=zc1 H h2 w;exact⟨u,h',by simp only[zK,jA,if_true,jU,h1,h3,h5],h6⟩
  ·rename_i i as e1 e2;split at w
   ·rename_i f first caps e3
    obtain⟨as',h1,h2⟩:=h.odl e2;obtain⟨v,_,h3,h4⟩:=h.odv e1;simp only[RV] at h4;have h5:=h4.2 (by rw[JB e3];rfl);subst h5;obtain⟨_,a',b',h6,h7,h8⟩:=H.ob i _ e3;obtain⟨u,h',h9,h10⟩:=zc1 H (RFs.app (RFs.app h7 h2) h8) w;exact⟨u,h',by simp only[zK,jA,if_true,jU,h1,h3,h6,h9],h10⟩
   ·exact w.elim
  ·exact w.elim
 |pick c x y=>
  simp only[ws] at w;split at w
  ·rename_i t u v e1 e2 e3;refine key (fun i hi=>by rw[zkN rfl] at hi;cases hi) rfl ?_;simp only[opX,e1,e2,e3,mx];cases t with
   |true=>exact w
   |false=>exact w
  ·exact w.elim
 |eqn neq x y=>
  simp only[ws] at w;split at w
  ·rename_i e2;obtain⟨v2,_,h3,h4⟩:=h.odv e2;simp only[RV] at h4;obtain⟨rfl,_⟩:=h4;have fin:∀v1 t,odS b x=some v1→zjc v1 .nils=some t→Ψ (.s (.v (.bool (if neq then !t else t)))) R.g→WPs C (.eqn neq x y) b R.h (fun u1 h1=>∃R' u,R'.h=h1∧HR R'∧Ex2 B R R'∧RF R' u u1∧Ψ u R'.g):=fun v1 t h1 h2 hΨ=>
    (zo5 rfl (by simp only[opE,h1,h3,h2,zvb];rfl)).2 ⟨R,_,rfl,H,Ex2.refl _ _,RF.sc (by cases neq<;>rfl),hΨ⟩
   cases e1:odX a x with
   |none=>rw[e1] at w;exact w.elim
   |some u=>
    rw[e1] at w;simp only[zwr] at w;have both:∀v1,odS b x=some v1→(v1= .nils∨(∃i p o,v1= .sl0 i p o)∨∃i p o n,v1= .sl i p o n)→Ja R.g u=some none→WPs C (.eqn neq x y) b R.h (fun u1 h1=>∃R' u,R'.h=h1∧HR R'∧Ex2 B R R'∧RF R' u u1∧Ψ u R'.g):=fun v1 h1 hv hq=>by
     rw[hq] at w;simp only[nq] at w;have pick:∀t:Bool,Ψ (.s (.v (.bool t))) R.g:=fun t=>by cases t<;>simp[w.1,w.2]
     rcases hv with rfl|⟨i,p,o,rfl⟩|⟨i,p,o,n,rfl⟩
     ·exact fin _ true h1 rfl (pick _)
     ·exact fin _ false h1 rfl (pick _)
     ·exact fin _ false h1 rfl (pick _)
    cases u with
    |agg l=>simp[Ja,nq] at w
    |tup l=>simp[Ja,nq] at w
    |s u=>
     obtain⟨v1,_,h1,h2⟩:=h.odv e1;cases u with
     |ptr i w' o=>simp[Ja,nq] at w
     |lp cs o=>simp[Ja,nq] at w
     |cl i=>simp[Ja,nq] at w
     |v s=>
      simp only[RV] at h2;obtain⟨rfl,_⟩:=h2;cases v1<;>simp[Ja,nq] at w;exact fin _ true h1 rfl (by simpa using w)
     |nl=>
      simp only[RV] at h2;refine both v1 h1 ?_ rfl;rcases h2 with h2|h2
      ·exact .inl h2
      ·exact .inr (.inl h2)
     |lst t z n cs=>
      simp only[RV] at h2;by_cases hn:n=0
      ·refine both v1 h1 ?_ (by simp[Ja,hn]);rcases h2 with⟨_,_,h2|h2⟩|⟨j,p,o,vs,rfl,_⟩
       ·exact .inl h2
       ·exact .inr (.inl h2)
       ·exact .inr (.inr ⟨_,_,_,_,rfl⟩)
      ·simp only[Ja,zuQ hn,nq] at w;rcases h2 with⟨h2,_⟩|⟨j,p,o,vs,rfl,_⟩
       ·exact absurd h2 hn
       ·exact fin _ false h1 rfl w
     |sl i w' o n=>
      simp only[Ja] at w both;cases hc:zL R.g i w' with
      |none=>rw[hc] at w;exact w.elim
      |some c=>
       obtain⟨t,z,cs⟩:=c;rw[hc] at w both;simp only at w both;by_cases hn:cs.length=0
       ·refine both v1 h1 ?_ (by rw[zuO hn]);rcases h2.sl hc with⟨_,_,_,h3|h3⟩|⟨_,p,rfl⟩
        ·exact .inl h3
        ·exact .inr (.inl h3)
        ·exact .inr (.inr ⟨_,_,_,_,rfl⟩)
       ·rw[zuQ hn] at w;simp only[nq] at w;rcases h2.sl hc with⟨h3,_⟩|⟨_,p,rfl⟩
        ·exact absurd (by rw[h3];rfl) hn
        ·exact fin _ false h1 rfl w
  ·exact w.elim
 |_=>
  simp only[ws] at w
  first
   |exact key (fun i hi=>by rw[zkN rfl] at hi;cases hi) rfl (by simpa[isW] using w)
   |(simp only[isW,if_true] at w;exact key w.1 rfl w.2)
theorem zg1:∀{l:List EG} {R:XE} (H:HR R) {a:XFr} {b:Fr} (h:RFr R a b) {Φ:XFr→XH→Prop} (w:wo C B l a R.g Φ),WPo C l b R.h (fun fr1 h1=>∃R' fr,R'.h=h1∧HR R'∧Ex2 B R R'∧RFr R' fr fr1∧Φ fr R'.g)
 |[],R,H,a,b,h,Φ,w=>zk8.2 ⟨R,a,rfl,H,Ex2.refl _ _,h,w⟩
 |x::l,R,H,a,b,h,Φ,w=>by
  have do':jt b x.guard=some true→ws C B x.op a R.g (fun v g'=>wo C B l (jT a x.dst (some v)) g' Φ)→WPo C (x::l) b R.h (fun fr1 h1=>∃R' fr,R'.h=h1∧HR R'∧Ex2 B R R'∧RFr R' fr fr1∧Φ fr R'.g):=fun hw w=>by rw[zo3 hw];obtain⟨v1,h1,e,R',v,rfl,a2,a3,a4,a5⟩:=zo8 H h w;refine⟨v1,R'.h,e,?_⟩;obtain⟨fr1,h2,e2,R'',fr,b1,b2,b3,b4⟩:=zg1 a2 ((h.mono H a3).put x.dst a4) a5;exact⟨fr1,h2,e2,R'',fr,b1,b2,a3.trans b3,b4⟩
  have skip:jt b x.guard=some false→wo C B l (jT a x.dst (some (.tup []))) R.g Φ→WPo C (x::l) b R.h (fun fr1 h1=>∃R' fr,R'.h=h1∧HR R'∧Ex2 B R R'∧RFr R' fr fr1∧Φ fr R'.g):=fun hw w=>by rw[zk9 hw];exact zg1 H (h.put x.dst (by simp[RF,RFs])) w
  simp only[wo] at w;split at w
  ·rename_i hg;exact do' (by rw[hg];rfl) w
  ·rename_i s t hg;split at w
   ·rename_i u e;obtain⟨y,h1,h2⟩:=h.get.1 _ e;obtain⟨c,rfl,h3⟩:=h2.s_inv;simp only[RV] at h3;obtain⟨rfl,_⟩:=h3;have hw:jt b x.guard=some (u==t):=by rw[hg];simp only[jt,h1]
    cases t<;>cases u<;>simp only[br,zb1 e] at w
    ·exact do' (by rw[hw];rfl) w
    ·exact skip (by rw[hw];rfl) w
    ·exact skip (by rw[hw];rfl) w
    ·exact do' (by rw[hw];rfl) w
   ·rename_i e;obtain⟨y,h1,h2⟩:=h.get.1 _ e;obtain⟨m,rfl,h3⟩:=h2.tup_inv;cases m with
    |nil=>exact skip (by rw[hg];simp only[jt,h1]) w
    |cons _ _=>simp[RFs] at h3
   ·exact w.elim
theorem Yz:∀{c:EC} {fr:XFr} {g:XH} {Φ:Ex→XFr→XH→Prop},wk C B c fr g Φ→Ck C B c fr g Φ
 | .skip,fr,g,Φ,w=>by
   rintro R fr1 rfl H h;exact ziF.2 ⟨R,fr,rfl,H,Ex2.refl _ _,h,w⟩
 | .label _,fr,g,Φ,w=>by
   rintro R fr1 rfl H h;exact zb0.2 ⟨R,fr,rfl,H,Ex2.refl _ _,h,w⟩
 | .ops l keep,fr,g,Φ,w=>by
   rintro R fr1 rfl H h;rw[zk6];obtain⟨f1,h1,e,R',f,a1,a2,a3,a4,a5⟩:=zg1 H h w;exact⟨f1,h1,e,R',yS keep f,a1,a2,a3,a4.keep keep,a5⟩
 | .draw l [] keep,fr,g,Φ,w=>by
   rintro R fr1 rfl H h;rw[zkw];obtain⟨f1,h1,e,R',f,a1,a2,a3,a4,a5⟩:=zg1 H h w;exact⟨f1,h1,e,R',yS keep f,a1,a2,a3,a4.keep keep,a5⟩
 | .draw l (p::ps) keep,fr,g,Φ,w=>w
 | .seq a b,fr,g,Φ,w=>by
   rintro R fr1 rfl H h;refine wp_seq ((Yz (c:=a) w R fr1 rfl H h).mono ?_);rintro x fr' h' ⟨R',f,rfl,a2,a3,a4,a5⟩;cases x with
   |normal=>exact(Yz (c:=b) a5 R' fr' rfl a2 a4).mono fun _ _ _=>Pk.trans a3
   |exit id=>exact⟨R',f,rfl,a2,a3,a4,a5⟩
   |goto l=>exact⟨R',f,rfl,a2,a3,a4,a5⟩
   |ret=>exact⟨R',f,rfl,a2,a3,a4,a5⟩
 | .cond c a b,fr,g,Φ,w=>by
   rintro R fr1 rfl H h;simp only[wk] at w;split at w
   ·rename_i t e;rw[ziB (h.oda e).1];cases t with
    |true=>exact Yz (c:=a) w R fr1 rfl H h
    |false=>exact Yz (c:=b) w R fr1 rfl H h
   ·exact w.elim
 | .block id b,fr,g,Φ,w=>by
   rintro R fr1 rfl H h;rw[zfw];refine(Yz (c:=b) w R fr1 rfl H h).mono ?_;rintro x fr' h' ⟨R',f,a1,a2,a3,a4,a5⟩;cases x with
   |exit id'=>
    simp only[KB,KBx] at a5⊢;split at a5
    ·rename_i hi;rw[zuO hi];exact⟨R',f,a1,a2,a3,a4,a5⟩
    ·rename_i hi;rw[zuQ hi];exact⟨R',f,a1,a2,a3,a4,a5⟩
   |normal=>exact⟨R',f,a1,a2,a3,a4,a5⟩
   |goto l=>exact⟨R',f,a1,a2,a3,a4,a5⟩
   |ret=>exact⟨R',f,a1,a2,a3,a4,a5⟩
 | .loop keep b,fr,g,Φ,w=>by
   rintro R fr1 rfl H h;rw[ziE];exact w R _ rfl H (h.keep keep)
 | .exit id keep,fr,g,Φ,w=>by
   rintro R fr1 rfl H h;exact ziC.2 ⟨R,_,rfl,H,Ex2.refl _ _,h.keep keep,w⟩
 | .ret keep,fr,g,Φ,w=>by
   rintro R fr1 rfl H h;exact zk7.2 ⟨R,_,rfl,H,Ex2.refl _ _,h.keep keep,w⟩
 | .goto l keep,fr,g,Φ,w=>by
   rintro R fr1 rfl H h;exact ziD.2 ⟨R,_,rfl,H,Ex2.refl _ _,h.keep keep,w⟩
 | .scope b,fr,g,Φ,w=>w
 | .ext _ _ _,fr,g,Φ,w=>w
end
def qn(m:Nat):XFr→Prop
 |[]=>True
 |(_,some v)::r=>lvF m v∧qn m r
 |(_,none)::r=>qn m r
def Old(m:Nat)(g g':XH):Prop:=∀i o,i<m→g'[i]? =some o→g[i]? =some o∨lvO m o
theorem Old.refl(m:Nat)(g:XH):Old m g g:=fun _ _ _ e=> .inl e
theorem RFr.cut{R:XE}{m:Nat}(hm:m≤R.g.length):∀{a:XFr} {b:Fr},qn m a→RFr R a b→RFr (R.cut m) a b
 |[],[],_,_=>by simp[RFr]
 |(n,some v)::r,(n',some v')::s,l,h=>by
  simp only[qn] at l;simp only[RFr] at h⊢;exact⟨h.1,RF.cut hm _ _ l.1 h.2.1,RFr.cut hm l.2 h.2.2⟩
 |(n,none)::r,(n',none)::s,l,h=>by
  simp only[qn] at l;simp only[RFr] at h⊢;exact⟨h.1,RFr.cut hm l h.2⟩
 |[],_::_,_,h=>by simp[RFr] at h
 |(_,some _)::_,[],_,h=>by simp[RFr] at h
 |(_,none)::_,[],_,h=>by simp[RFr] at h
 |(_,some _)::_,(_,none)::_,_,h=>by simp[RFr] at h
 |(_,none)::_,(_,some _)::_,_,h=>by simp[RFr] at h
theorem ZP.mono'{m m':Nat}(hm:m≤m'):∀(a:List XF),ZP m a→ZP m' a:=by
 intro a;refine XF.rec_1 (motive_1:=fun x=>lvF m x→lvF m' x) (motive_2:=fun l=>ZP m l→ZP m' l) ?_ ?_ ?_ ?_ ?_ a
 ·intro v h;simp only[lvF] at h⊢;exact lvV.mono hm v h
 ·intro l h;simp only[lvF] at h⊢;exact zw.mono hm l h
 ·intro l ih h;simp only[lvF] at h⊢;exact ih h
 ·intro h;simp[ZP]
 ·intro x l h1 h2 h;simp only[ZP] at h⊢;exact⟨h1 h.1,h2 h.2⟩
theorem lvO.mono{m m':Nat}(hm:m≤m'):∀{o:XO},lvO m o→lvO m' o
 | .own _ _ _ cs,h=>zw.mono hm cs h
 | .dead,_=>trivial
 | .clo _ a b,h=>⟨ZP.mono' hm a h.1,ZP.mono' hm b h.2⟩
def Cut(g:XH)(fr:XFr)(g':XH)(P:XFr→XH→Prop):Prop:=∃g2 J,g'=g2++J∧g.length≤g2.length∧qn g2.length fr∧Old g2.length g g2∧P fr g2
theorem Cut.sim{B:Nat→Prop}{R R':XE}(H:HR R)(H':HR R')(x:Ex2 B R R'){fr:XFr}{fr1:Fr}(h:RFr R' fr fr1){P:XFr→XH→Prop}(c:Cut R.g fr R'.g P):∃R2,R2.h=R'.h∧HR R2∧Ex2 B R R2∧RFr R2 fr fr1∧P fr R2.g:=by
 obtain⟨g2,J,e,h1,h2,h3,h4⟩:=c;have hl:g2.length≤R'.g.length:=by rw[e,zuM];omega
 have et:R'.g.take g2.length=g2:=by rw[e,zv8];rfl
 refine⟨R'.cut g2.length,rfl,zsX H' hl fun i o hi ho=> ?_,zsW x h1 hl,h.cut hl h2,by simp only[XE.cut];rw[et];exact h4⟩;have ho2:g2[i]? =some o:=by rw[e,zuK hi] at ho;exact ho
 rcases h3 i o hi ho2 with h5|h5
 ·exact lvO.mono h1 (RO.lt (H.ob i o h5))
 ·exact h5
theorem RFr.slots{R:XE}:∀{a:XFr} {b:Fr},RFr R a b→a.map (·.1)=b.map (·.1)
 |[],[],_=>rfl
 |(n,some v)::r,(n',some v')::s,h=>by
  simp only[RFr] at h;simp[h.1,RFr.slots h.2.2]
 |(n,none)::r,(n',none)::s,h=>by
  simp only[RFr] at h;simp[h.1,RFr.slots h.2]
 |[],_::_,h=>by simp[RFr] at h
 |(_,some _)::_,[],h=>by simp[RFr] at h
 |(_,none)::_,[],h=>by simp[RFr] at h
 |(_,some _)::_,(_,none)::_,h=>by simp[RFr] at h
 |(_,none)::_,(_,some _)::_,h=>by simp[RFr] at h
theorem zal:∀{f:Fr},(f.map (·.1)).Nodup→zl (f.map (·.1)) f=f
 |[],_=>rfl
 |(m,v)::r,h=>by
  simp only[zu2,List.nodup_cons] at h;simp only[zl,zu2,zwN];have h0:yq ((m,v)::r) m=v:=by simp[yq]
  rw[h0];congr 1;have ih:=zal h.2;simp only[zl,zwN] at ih
  conv=>rhs;rw[←ih]
  refine zvo fun x hx=> ?_;have:x.1≠m:=fun e=>h.1 (e▸zwW hx);simp[yq,this]
theorem Lp.inv{C:Nat→Option EF}{B:Nat→Prop}{keep:List Nat}{b:EC}{Φ:Ex→XFr→XH→Prop}(hk:keep.Nodup)(I:Nat→XFr→XH→Prop)(hs:∀n fr g,I n fr g→fr.map (·.1)=keep∧wk C B b fr g (KLx (fun fr' g'=>∃m,m<n∧Cut g fr' g' (I m)) keep Φ)):∀n fr g,I n fr g→Lp C B keep b fr g Φ:=by
 intro n fr g hI R fr1 hg H h;refine WPl.inv (fun k fr1 h1=>∃R' fr,R'.h=h1∧HR R'∧Ex2 B R R'∧RFr R' fr fr1∧I k fr R'.g) ?_ n fr1 R.h ⟨R,fr,rfl,H,Ex2.refl _ _,h,hg▸hI⟩;rintro k fr2 h2 ⟨R',f,rfl,a2,a3,a4,a5⟩;obtain⟨k1,k2⟩:=hs k f R'.g a5;refine⟨?_,?_⟩
 ·have e:=a4.slots;rw[k1] at e;rw[e];exact zal (e▸hk)
 ·refine(Yz k2 R' fr2 rfl a2 a4).mono ?_;rintro x fr' h' ⟨R2,f2,rfl,b2,b3,b4,b5⟩;cases x with
  |normal=>
   obtain⟨m,hm,c⟩:=b5;obtain⟨R3,c1,c2,c3,c4,c5⟩:=Cut.sim a2 b2 b3 (b4.keep keep) c;exact⟨m,hm,R3,_,c1,c2,a3.trans c3,c4,c5⟩
  |exit id=>exact⟨R2,f2,rfl,b2,a3.trans b3,b4,b5⟩
  |goto l=>exact⟨R2,f2,rfl,b2,a3.trans b3,b4,b5⟩
  |ret=>exact⟨R2,f2,rfl,b2,a3.trans b3,b4,b5⟩
def zl4(K:List (Option Nat))(k:Nat):Prop:=∀j:Nat,K[j]?≠some (some k)
mutual
inductive FzV (n0:Nat) (J:XH) (K:List (Option Nat)) (O:XH):XV→XV→Prop
 |lt {a:XV}:lvV n0 a→FzV n0 J K O a a
 |nil {t z:Nat}:FzV n0 J K O (.v .nils) (.lst t z 0 [])
 |nl {t z:Nat}:FzV n0 J K O .nl (.lst t z 0 [])
 |gh {j t z:Nat}:K[j]? =some none→O[j]? =some (.own 0 t z [])→FzV n0 J K O (.v .nils) (.sl (n0+j) 0 0 0)
 |ghl {j t z:Nat}:K[j]? =some none→O[j]? =some (.own 0 t z [])→FzV n0 J K O .nl (.sl (n0+j) 0 0 0)
 |ksl {j k w o n:Nat}:K[j]? =some (some k)→FzV n0 J K O (.sl (n0+k) w o n) (.sl (n0+j) w o n)
 |kptr {j k w o:Nat}:K[j]? =some (some k)→FzV n0 J K O (.ptr (n0+k) w o) (.ptr (n0+j) w o)
 |sl {i w o n t z:Nat} {cs cs':List XV}:n0≤i→zl4 K (i-n0)→J[i-n0]? =some (.own w t z cs)→(o+n)*z≤cs.length→FzVs n0 J K O cs cs'→FzV n0 J K O (.sl i w o n) (.lst t z n ((cs'.drop (o*z)).take (n*z)))
 |ptr {i w o t z:Nat} {cs cs':List XV}:n0≤i→zl4 K (i-n0)→J[i-n0]? =some (.own w t z cs)→cs≠[]→FzVs n0 J K O cs cs'→FzV n0 J K O (.ptr i w o) (.lp cs' o)
 |lst {t z n:Nat} {cs cs':List XV}:FzVs n0 J K O cs cs'→FzV n0 J K O (.lst t z n cs) (.lst t z n cs')
 |lp {o:Nat} {cs cs':List XV}:FzVs n0 J K O cs cs'→FzV n0 J K O (.lp cs o) (.lp cs' o)
inductive FzVs (n0:Nat) (J:XH) (K:List (Option Nat)) (O:XH):List XV→List XV→Prop
 |nil:FzVs n0 J K O [] []
 |cons {a a':XV} {r r':List XV}:FzV n0 J K O a a'→FzVs n0 J K O r r'→FzVs n0 J K O (a::r) (a'::r')
end
section
variable {n0:Nat} {J:XH} {K:List (Option Nat)} {O:XH}
theorem FzVs.lts:∀{l:List XV},zw n0 l→FzVs n0 J K O l l
 |[],_=> .nil
 |a::r,h=>by simp only[zw] at h;exact .cons (.lt h.1) (FzVs.lts h.2)
theorem FzVs.len:∀{l l':List XV},FzVs n0 J K O l l'→l'.length=l.length
 |_,_,.nil=>rfl
 |_,_,.cons _ h=>by simp[FzVs.len h]
theorem FzV.full{i w n t z:Nat}{cs cs':List XV}(h1:n0≤i)(hk:zl4 K (i-n0))(h2:J[i-n0]? =some (.own w t z cs))(h4:n*z=cs.length)(h5:FzVs n0 J K O cs cs'):FzV n0 J K O (.sl i w 0 n) (.lst t z n cs'):=by
 have:=FzV.sl (o:=0) (n:=n) h1 hk h2 (by rw[zvn,h4];exact zuL _) h5
 rwa [zvP,zu8,show n*z=cs'.length by rw[h5.len];exact h4,zve] at this
inductive FzF (n0:Nat) (J:XH) (K:List (Option Nat)) (O:XH):XF→XF→Prop
 |s {a a':XV}:FzV n0 J K O a a'→FzF n0 J K O (.s a) (.s a')
 |agg {l l':List XV}:FzVs n0 J K O l l'→FzF n0 J K O (.agg l) (.agg l')
 |nil:FzF n0 J K O (.tup []) (.tup [])
 |cons {a a':XF} {l l':List XF}:FzF n0 J K O a a'→FzF n0 J K O (.tup l) (.tup l')→FzF n0 J K O (.tup (a::l)) (.tup (a'::l'))
structure FzH(W:Nat→Prop)(n0:Nat)(J:XH)(K:List (Option Nat))(O:XH)(g g1 g2:XH):Prop where
 l1:g1.length=n0
 l2:g2.length=n0
 ob:∀(i:Nat) (o:XO),g1[i]? =some o→(g2[i]? =some o∧(g[i]? =some o∨lvO n0 o))∨W i∧∃w t z cs cs',o= .own w t z cs∧g2[i]? =some (.own w t z cs')∧FzVs n0 J K O cs cs'
 lk:K.length=O.length
 kn:∀(j j' k:Nat),K[j]? =some (some k)→K[j']? =some (some k)→j=j'
 ko:∀(j:Nat) (o:XO),O[j]? =some o→(K[j]? =some none∧∃t z,o= .own 0 t z [])∨∃k w t z cs cs',K[j]? =some (some k)∧J[k]? =some (.own w t z cs)∧o= .own w t z cs'∧FzVs n0 J K O cs cs'
end
def XE.done(R:XE)(n0:Nat)(g:XH)(K:List (Option Nat))(O:XH):XE:=⟨fun i=>if i<n0 then R.φ i else match K[i-n0]? with
 |some (some k)=>R.φ (n0+k)
 |_=>0,g++O,R.h,fun j=>R.z j∨∃k,zl4 K k∧sol R (n0+k)∧j=R.φ (n0+k),fun i=>if i<n0 then R.e i else match K[i-n0]? with
 |some (some k)=>R.e (n0+k)
 |_=>False⟩
section
variable {R:XE} {n0:Nat} {g J g1:XH} {K:List (Option Nat)} {O:XH}
structure DoneOk(R:XE)(n0:Nat)(g g1 J:XH)(K:List (Option Nat))(O:XH):Prop where
 hr:HR R
 gl:g.length=n0
 l1:g1.length=n0
 tg:∀i,i<n0→Ev.tg g i=Ev.tg R.g i
 hg:R.g=g1++J
 lk:K.length=O.length
 ob:∀(i:Nat) (o:XO),g1[i]? =some o→g[i]? =some o∨∃w t z cs cs',o= .own w t z cs∧g[i]? =some (.own w t z cs')∧cs'.length=cs.length
 ko:∀(j k:Nat),K[j]? =some (some k)→∃w t z cs cs',J[k]? =some (.own w t z cs)∧O[j]? =some (.own w t z cs')∧cs'.length=cs.length
theorem DoneOk.ktg(D:DoneOk R n0 g g1 J K O){j k:Nat}(h:K[j]? =some (some k)):Ev.tg O j=Ev.tg J k:=by obtain⟨w,t,z,cs,cs',h1,h2,_⟩:=D.ko j k h;rw[JB h1,JB h2];rfl
theorem zkI{α β:Type}{a:List α}{b:List β}(h:a.length=b.length):a=[]↔b=[]:=by cases a<;>cases b<;>simp at h⊢
theorem DoneOk.sol_lt(D:DoneOk R n0 g g1 J K O){i:Nat}(hi:i<n0):sol (R.done n0 g K O) i↔sol R i:=by
 have e1:R.g[i]? =g1[i]? :=by rw[D.hg,zuK (by rw[D.l1];exact hi)]
 have e2:(R.done n0 g K O).g[i]? =g[i]? :=zuK (by rw[D.gl];exact hi);have e3:(R.done n0 g K O).e i↔R.e i:=by simp only[XE.done,zuO hi]
 obtain⟨o,eo⟩:∃o,g1[i]? =some o:=⟨_,zuV (by rw[D.l1];exact hi)⟩
 rcases D.ob i o eo with h|⟨w,t,z,cs,cs',rfl,h,hl⟩
 ·unfold sol;rw[e1,e2,eo,h];simp only[zuE,exists_eq_left'];cases o<;>simp only[zmq,e3]
 ·unfold sol;rw[e1,e2,eo,h];simp only[zuE,exists_eq_left',zmq,e3,ne_eq,zkI hl]
theorem DoneOk.sol_k(D:DoneOk R n0 g g1 J K O){j k:Nat}(h:K[j]? =some (some k)):sol (R.done n0 g K O) (n0+j)↔sol R (n0+k):=by
 obtain⟨w,t,z,cs,cs',h1,h2,hl⟩:=D.ko j k h;have e1:R.g[n0+k]? =some (.own w t z cs):=by rw[D.hg,zuN (by rw[D.l1];omega),D.l1,zvI];exact h1
 have e2:(R.done n0 g K O).g[n0+j]? =some (.own w t z cs'):=by show(g++O)[n0+j]? =_;rw[zuN (by rw[D.gl];omega),D.gl,zvI];exact h2
 have e3:(R.done n0 g K O).e (n0+j)↔R.e (n0+k):=by simp only[XE.done,zuQ (show¬n0+j<n0 by omega),zvI,h]
 rw[ql e1,ql e2,e3,ne_eq,ne_eq,zkI hl]
theorem DoneOk.gh_sol(D:DoneOk R n0 g g1 J K O){j t z:Nat}(h:K[j]? =some none)(ho:O[j]? =some (.own 0 t z [])):¬sol (R.done n0 g K O) (n0+j):=by
 have e2:(R.done n0 g K O).g[n0+j]? =some (.own 0 t z []):=by show(g++O)[n0+j]? =_;rw[zuN (by rw[D.gl];omega),D.gl,zvI];exact ho
 rw[ql e2];simp only[XE.done,zuQ (show¬n0+j<n0 by omega),zvI,h];simp
theorem zk5{g O:XH}{n0 j:Nat}(h:g.length=n0):tg (g++O) (n0+j)=tg O j:=by unfold tg;rw[zuN (by omega)];congr 2;omega
mutual
theorem RV.done(D:DoneOk R n0 g g1 J K O):∀(a:XV) (b:SV),lvV n0 a→RV R a b→RV (R.done n0 g K O) a b
 | .v a,b,_,r=>by simp only[RV] at r⊢;exact r
 | .ptr i w o,b,l,r=>by
   simp only[lvV] at l;have e:tg (g++O) i=tg R.g i:=by rw[zbW (by rw[D.gl];exact l)];exact D.tg i l
   have hs:=D.sol_lt l;simp only[RV,hs] at r⊢;simp only[XE.done,e,zuO l];exact⟨by rw[zuM];have:=D.gl;omega,r.2⟩
 | .sl i w o n,b,l,r=>by
   simp only[lvV] at l;have e:tg (g++O) i=tg R.g i:=by rw[zbW (by rw[D.gl];exact l)];exact D.tg i l
   have hs:=D.sol_lt l;simp only[RV,hs] at r⊢;simp only[XE.done,e,zuO l];exact⟨by rw[zuM];have:=D.gl;omega,r.2⟩
 | .lst t z n cs,b,l,r=>by
   simp only[lvV] at l;simp only[RV] at r⊢;rcases r with r|⟨j,p,o,vs,r1,r2,r3,r4,r5,r6⟩
   ·exact .inl r
   ·exact .inr ⟨j,p,o,vs,r1,.inl r2,r3,r4,r5,RVs.done D cs _ l r6⟩
 | .lp cs o,b,l,r=>by
   simp only[lvV] at l;simp only[RV] at r⊢;obtain⟨j,q,t,vs,r1,r2,r3,r4,r5⟩:=r;exact⟨j,q,t,vs,r1,.inl r2,r3,r4,RVs.done D cs _ l r5⟩
 | .cl i,b,l,r=>by
   simp only[lvV] at l;have e:tg (g++O) i=tg R.g i:=by rw[zbW (by rw[D.gl];exact l)];exact D.tg i l
   have hs:=D.sol_lt l;simp only[RV,hs] at r⊢;simp only[XE.done,e,zuO l];exact⟨by rw[zuM];have:=D.gl;omega,r.2⟩
 | .nl,b,_,r=>by simp only[RV] at r⊢;exact r
theorem RVs.done(D:DoneOk R n0 g g1 J K O):∀(a:List XV) (b:List SV),zw n0 a→RVs R a b→RVs (R.done n0 g K O) a b
 |[],[],_,_=>by simp[RVs]
 |a::r,b::s,l,h=>by
  simp only[zw] at l;simp only[RVs] at h⊢;exact⟨RV.done D a b l.1 h.1,RVs.done D r s l.2 h.2⟩
 |[],_::_,_,h=>by simp[RVs] at h
 |_::_,[],_,h=>by simp[RVs] at h
end
mutual
theorem RF.done(D:DoneOk R n0 g g1 J K O):∀(a:XF) (b:FV),lvF n0 a→RF R a b→RF (R.done n0 g K O) a b
 | .s a,.s b,l,h=>by simp only[RF,lvF] at l h⊢;exact RV.done D a b l h
 | .agg a,.agg b,l,h=>by simp only[RF,lvF] at l h⊢;exact RVs.done D a b l h
 | .tup a,.tup b,l,h=>by simp only[RF,lvF] at l h⊢;exact RFs.done D a b l h
 | .s _,.agg _,_,h=>by simp[RF] at h
 | .s _,.tup _,_,h=>by simp[RF] at h
 | .agg _,.s _,_,h=>by simp[RF] at h
 | .agg _,.tup _,_,h=>by simp[RF] at h
 | .tup _,.s _,_,h=>by simp[RF] at h
 | .tup _,.agg _,_,h=>by simp[RF] at h
theorem RFs.done(D:DoneOk R n0 g g1 J K O):∀(a:List XF) (b:List FV),ZP n0 a→RFs R a b→RFs (R.done n0 g K O) a b
 |[],[],_,_=>by simp[RFs]
 |a::r,b::s,l,h=>by
  simp only[ZP] at l;simp only[RFs] at h⊢;exact⟨RF.done D a b l.1 h.1,RFs.done D r s l.2 h.2⟩
 |[],_::_,_,h=>by simp[RFs] at h
 |_::_,[],_,h=>by simp[RFs] at h
end
theorem zaW{K:List (Option Nat)}{O:XH}(hl:K.length=O.length){j:Nat}{x:Option Nat}(h:K[j]? =some x):j<O.length:=by have:=(zuJ.1 h).1;omega
mutual
theorem FzV.sound(D:DoneOk R n0 g g1 J K O):∀{a a':XV} (b:SV),FzV n0 J K O a a'→RV R a b→RV (R.done n0 g K O) a' b
 |_,_,b,.lt l,r=>RV.done D _ _ l r
 |_,_,b,.nil,r=>by
  simp only[RV] at r⊢;exact .inl ⟨trivial,trivial,.inl r.1⟩
 |_,_,b,.nl,r=>by
  simp only[RV] at r⊢;exact .inl ⟨trivial,trivial,r⟩
 |_,_,b,.gh (j:=j) (t:=t) (z:=z) k1 k2,r=>by
  simp only[RV] at r⊢;refine⟨?_,fun _ _=>zws _,by rw[r.1];rfl,fun _=> .inl ⟨D.gh_sol k1 k2,trivial,.inl r.1⟩⟩;simp only[XE.done,zuM];have:=zaW D.lk k1;have:=D.gl;omega
 |_,_,b,.ghl (j:=j) (t:=t) (z:=z) k1 k2,r=>by
  simp only[RV] at r⊢;refine⟨?_,fun _ _=>zws _,by rcases r with rfl|⟨_,_,_,rfl⟩<;>rfl,fun _=> .inl ⟨D.gh_sol k1 k2,trivial,r⟩⟩;simp only[XE.done,zuM];have:=zaW D.lk k1;have:=D.gl;omega
 |_,_,b,.ksl (j:=j) (k:=k) (w:=w) (o:=o) (n:=n) k1,r=>by
  have e:tg (g++O) (n0+j)=tg R.g (n0+k):=by rw[zk5 D.gl,D.hg,zk5 D.l1];exact D.ktg k1
  have hs:=D.sol_k k1;simp only[RV,hs] at r⊢;simp only[XE.done];rw[e,zuQ (by omega),zvI,k1];refine⟨?_,r.2⟩;rw[zuM];have:=zaW D.lk k1;have:=D.gl;omega
 |_,_,b,.kptr (j:=j) (k:=k) (w:=w) (o:=o) k1,r=>by
  have e:tg (g++O) (n0+j)=tg R.g (n0+k):=by rw[zk5 D.gl,D.hg,zk5 D.l1];exact D.ktg k1
  have hs:=D.sol_k k1;simp only[RV,hs] at r⊢;simp only[XE.done];rw[e,zuQ (by omega),zvI,k1];refine⟨?_,r.2⟩;rw[zuM];have:=zaW D.lk k1;have:=D.gl;omega
 |_,_,b,.sl (i:=i) (w:=w) (o:=o) (n:=n) (t:=t) (z:=z) (cs:=cs) (cs':=cs') k1 kk k2 k4 k5,r=>by
  have e:R.g[i]? =some (.own w t z cs):=by rw[D.hg,zuN (by rw[D.l1];exact k1),D.l1];exact k2
  simp only[RV] at r⊢;have e1:(o+n)*z=o*z+n*z:=zvv _ _ _;have hcl:=k5.len;rcases r.2.2.2 (by rw[JB e];rfl) with⟨q1,q2,q3⟩|⟨q1,p,q3⟩
  ·refine .inl ⟨q2,?_,q3⟩;rw[q2];simp
  ·rcases D.hr.ob i _ e with⟨h4,h4'⟩|⟨h4,vs,h5,h6⟩
   ·rw[ql e] at q1;exact absurd h4 (q1.resolve_right h4')
   ·have hvl:=h6.len;have hi:n0+(i-n0)=i:=by omega
    refine .inr ⟨R.φ i,p,o,vs,q3,.inr ⟨i-n0,kk,by rw[hi];exact q1,by rw[hi]⟩,?_,?_,by omega,?_⟩
    ·show cellsOf R.h _=_;rw[zV,h5];rfl
    ·rw[zu0,zvQ];omega
    ·exact((FzVs.sound D _ k5 h6).drop _).take _
 |_,_,b,.ptr (i:=i) (w:=w) (o:=o) (t:=t) (z:=z) (cs:=cs) (cs':=cs') k1 kk k2 k4 k5,r=>by
  have e:R.g[i]? =some (.own w t z cs):=by rw[D.hg,zuN (by rw[D.l1];exact k1),D.l1];exact k2
  simp only[RV] at r⊢;have hcl:=k5.len;have q3:=r.2.2 (by rw[JB e];rfl);rcases D.hr.ob i _ e with⟨h4,_⟩|⟨h4,vs,h5,h6⟩
  ·exact absurd h4 k4
  ·have hvl:=h6.len;have hi:n0+(i-n0)=i:=by omega
   refine⟨R.φ i,0,t,vs,by rw[zvn];exact q3,.inr ⟨i-n0,kk,by rw[hi];exact Zw e (.inl k4),by rw[hi]⟩,?_,by omega,?_⟩
   ·show cellsOf R.h _=_;rw[zV,h5];rfl
   ·rw[zu8,show cs'.length=vs.length by omega,zve];exact FzVs.sound D _ k5 h6
 |_,_,b,.lst k,r=>by
  simp only[RV] at r⊢;rcases r with⟨r1,rfl,r2⟩|⟨j,p,o,vs,r1,r2,r3,r4,r5,r6⟩
  ·cases k;exact .inl ⟨r1,rfl,r2⟩
  ·exact .inr ⟨j,p,o,vs,r1,.inl r2,r3,by rw[k.len];exact r4,r5,FzVs.sound D _ k r6⟩
 |_,_,b,.lp k,r=>by simp only[RV] at r⊢;obtain⟨j,q,t,vs,r1,r2,r3,r4,r5⟩:=r;have:=k.len;exact⟨j,q,t,vs,r1,.inl r2,r3,by omega,by rw[this];exact FzVs.sound D _ k r5⟩
theorem FzVs.sound(D:DoneOk R n0 g g1 J K O):∀{a a':List XV} (b:List SV),FzVs n0 J K O a a'→RVs R a b→RVs (R.done n0 g K O) a' b
 |_,_,[],.nil,_=>by simp[RVs]
 |_,_,_::_,.nil,h=>by simp[RVs] at h
 |_,_,b::s,.cons k1 k2,h=>by
  simp only[RVs] at h⊢;exact⟨FzV.sound D b k1 h.1,FzVs.sound D s k2 h.2⟩
 |_,_,[],.cons _ _,h=>by simp[RVs] at h
end
theorem FzF.sound(D:DoneOk R n0 g g1 J K O):∀{a a':XF} (b:FV),FzF n0 J K O a a'→RF R a b→RF (R.done n0 g K O) a' b
 |_,_,b,.s k,r=>by
  obtain⟨c,rfl,r2⟩:=r.s_inv;simp only[RF];exact k.sound D _ r2
 |_,_,b,.agg k,r=>by
  obtain⟨c,rfl,r2⟩:=r.agg_inv;simp only[RF];exact k.sound D _ r2
 |_,_,b,.nil,r=>by
  obtain⟨c,rfl,r2⟩:=r.tup_inv;cases c with
  |nil=>simp[RF,RFs]
  |cons _ _=>simp[RFs] at r2
 |_,_,b,.cons k1 k2,r=>by
  obtain⟨c,rfl,r2⟩:=r.tup_inv;cases c with
  |nil=>simp[RFs] at r2
  |cons c cs=>
   simp only[RFs] at r2;have q1:=FzF.sound D c k1 r2.1;have q2:=FzF.sound D (.tup cs) k2 (by simp only[RF];exact r2.2);simp only[RF] at q2;simp only[RF,RFs];exact⟨q1,q2⟩
end
theorem FzH.refl{W:Nat→Prop}{J g:XH}:FzH W g.length J [] [] g g g:=⟨rfl,rfl,fun i o e=> .inl ⟨e,.inl e⟩,rfl,fun j j' k e=>by simp at e,fun j o e=>by simp at e⟩
theorem FzH.set{W:Nat→Prop}{n0:Nat}{J g g1 g2:XH}{K:List (Option Nat)}{O:XH}(h:FzH W n0 J K O g g1 g2)(i:Nat){o:XO}(ho:lvO n0 o):FzH W n0 J K O g (g1.set i o) (g2.set i o):=by
 refine⟨by simp[h.l1],by simp[h.l2],fun j p e=> ?_,h.lk,h.kn,h.ko⟩;by_cases hij:i=j
 ·subst hij;have:=(zuJ.1 e).1;rw[zvi] at this;rw[zu1 this] at e;obtain rfl:=zuG e;exact .inl ⟨by rw[zu1 (by rw[h.l2,←h.l1];exact this)],.inr ho⟩
 ·rw[zuR hij] at e⊢;exact h.ob j p e
theorem FzH.put{W:Nat→Prop}{n0:Nat}{J g g1 g2:XH}{K:List (Option Nat)}{O:XH}(h:FzH W n0 J K O g g1 g2)(i w t z:Nat)(hW:W i){cs cs':List XV}(ho:FzVs n0 J K O cs cs'):FzH W n0 J K O g (g1.set i (.own w t z cs)) (g2.set i (.own w t z cs')):=by
 refine⟨by simp[h.l1],by simp[h.l2],fun j p e=> ?_,h.lk,h.kn,h.ko⟩;by_cases hij:i=j
 ·subst hij;have:=(zuJ.1 e).1;rw[zvi] at this;rw[zu1 this] at e;obtain rfl:=zuG e;exact .inr ⟨hW,w,t,z,cs,cs',rfl,by rw[zu1 (by rw[h.l2,←h.l1];exact this)],ho⟩
 ·rw[zuR hij] at e⊢;exact h.ob j p e
theorem FzH.tg{W:Nat→Prop}{n0:Nat}{J g g1 g2:XH}{K:List (Option Nat)}{O:XH}(h:FzH W n0 J K O g g1 g2)(i:Nat):Ev.tg g2 i=Ev.tg g1 i:=by
 cases e:g1[i]? with
 |none=>
  have:g2[i]? =none:=by rw[zxe] at e⊢;rw[h.l2,←h.l1];exact e
  unfold Ev.tg;rw[e,this]
 |some o=>
  rcases h.ob i o e with⟨h1,_⟩|⟨_,w,t,z,cs,cs',rfl,h1,h2⟩
  ·unfold Ev.tg;rw[e,h1]
  ·rw[JB h1,JB e];rfl
theorem zeL{B:Nat→Prop}{R R':XE}(H:HR R)(H':HR R')(x:Ex2 B R R'){J g1 g2:XH}{K:List (Option Nat)}{O:XH}(hg:R'.g=g1++J)(h:FzH B R.g.length J K O R.g g1 g2):Ex2 B R (R'.done R.g.length g2 K O)∧HR (R'.done R.g.length g2 K O)∧DoneOk R' R.g.length g2 g1 J K O:=by
 have ht:∀i,i<R.g.length→tg g2 i=tg R'.g i:=fun i hi=>by rw[h.tg,hg,zbW (by rw[h.l1];exact hi)]
 have D:DoneOk R' R.g.length g2 g1 J K O:=⟨H',h.l2,h.l1,ht,hg,h.lk,fun i o e=>by
  rcases h.ob i o e with⟨h1,_⟩|⟨_,w,t,z,cs,cs',rfl,h1,h2⟩
  ·exact .inl h1
  ·exact .inr ⟨w,t,z,cs,cs',rfl,h1,h2.len⟩,fun j k e=>by
  obtain⟨o,eo⟩:∃o,O[j]? =some o:=⟨_,zuV (zaW h.lk e)⟩
  rcases h.ko j o eo with⟨h1,_⟩|⟨k',w,t,z,cs,cs',h1,h2,rfl,h3⟩
  ·rw[h1] at e;simp at e
  ·rw[h1] at e;obtain rfl:k'=k:=by simpa using e
   exact⟨w,t,z,cs,cs',h2,eo,h3.len⟩⟩
 --a solid object of the new heap,and where it came from
 have src:∀i,sol (R'.done R.g.length g2 K O) i→(i<R.g.length∧sol R' i∧(R'.done R.g.length g2 K O).φ i=R'.φ i)∨∃j k,i=R.g.length+j∧K[j]? =some (some k)∧sol R' (R.g.length+k)∧(R'.done R.g.length g2 K O).φ i=R'.φ (R.g.length+k):=fun i hs=>by
  by_cases hi:i<R.g.length
  ·exact .inl ⟨hi,(D.sol_lt hi).1 hs,by simp only[XE.done];rw[zuO hi]⟩
  ·obtain⟨j,rfl⟩:∃j,i=R.g.length+j:=⟨i-R.g.length,by omega⟩
   have hlt:j<O.length:=by have:=Ev.sol_lt hs;simp only[XE.done,zuM,h.l2] at this;omega
   obtain⟨o,eo⟩:∃o,O[j]? =some o:=⟨_,zuV hlt⟩
   rcases h.ko j o eo with⟨h1,t,z,rfl⟩|⟨k,w,t,z,cs,cs',h1,h2,rfl,h3⟩
   ·exact absurd hs (D.gh_sol h1 eo)
   ·refine .inr ⟨j,k,rfl,h1,(D.sol_k h1).1 hs,?_⟩;simp only[XE.done];rw[zuQ (by omega),zvI,h1]
 refine⟨⟨by simp[XE.done,h.l2],x.lh,fun i hi k w e=> ?_,x.same,fun j hj=> .inl (x.z j hj),fun i hs=> ?_,fun i hi hn=> ?_⟩,⟨fun i o ho=> ?_,fun i j hi hj e=> ?_,fun j hj=> ?_⟩,D⟩
 ·have hs:=D.sol_lt hi;simp only[XE.done] at e;rw[zbW (by rw[h.l2];exact hi),ht i hi] at e;obtain⟨w0,a,b,c⟩:=x.vr i hi k w e;refine⟨w0,a,b,fun q=>⟨?_,hs.trans (c q).2⟩⟩;simp only[XE.done];rw[zuO hi];exact(c q).1
 ·rcases src i hs with⟨h1,h2,h3⟩|⟨j,k,rfl,h1,h2,h3⟩
  ·rw[h3];exact x.new i h2
  ·rw[h3];refine .inr ?_;rcases x.new _ h2 with⟨h4,_⟩|h4
   ·have:=Ev.sol_lt h4;omega
   ·exact h4
 ·have e1:R'.g[i]? =g1[i]? :=by rw[hg,zuK (by rw[h.l1];exact hi)]
  have e2:=x.gs i hi hn;simp only[XE.done];rw[zuK (by rw[h.l2];exact hi),←e2,e1];cases e3:g1[i]? with
  |none=>
   have:=zxe.1 e3;rw[h.l1] at this;omega
  |some o=>
   rcases h.ob i o e3 with⟨h4,_⟩|⟨h4,_⟩
   ·exact h4
   ·exact absurd h4 hn
 ·by_cases hi:i<R.g.length
  ·have ho':g2[i]? =some o:=by
    simp only[XE.done] at ho
    rwa [zuK (by rw[h.l2];exact hi)] at ho
   have hi1:i<g1.length:=by rw[h.l1];exact hi
   obtain⟨o1,e1⟩:∃o1,g1[i]? =some o1:=⟨_,zuV hi1⟩
   have e2:R'.g[i]? =some o1:=by rw[hg,zuK hi1];exact e1
   have r:=H'.ob i o1 e2;have ep:(R'.done R.g.length g2 K O).φ i=R'.φ i:=by simp only[XE.done];rw[zuO hi]
   have nz:sol R' i→¬R'.z (R'.φ i)→¬(R'.done R.g.length g2 K O).z (R'.φ i):=fun hs hn=>by
    rintro(q|⟨k,q1,q2,q3⟩)
    ·exact hn q
    ·have:=H'.inj i _ hs q2 q3;omega
   have h3:=h.ob i o1 e1;have ee:(R'.done R.g.length g2 K O).e i↔R'.e i:=by simp only[XE.done,zuO hi]
   rcases h3 with⟨h4,h5⟩|⟨_,w,t,z,cs,cs',rfl,h4,h5⟩
   ·have:o1=o:=zuG (h4.symm.trans ho');subst this;have l:lvO R.g.length o1:=by
     rcases h5 with h5|h5
     ·exact RO.lt (H.ob i o1 h5)
     ·exact h5
    cases o1 with
    |dead=>trivial
    |own w t z cs=>
     rcases r with⟨r,r'⟩|⟨r1,vs,r2,r3⟩
     ·exact .inl ⟨r,fun q=>r' (ee.1 q)⟩
     ·by_cases hs:sol R' i
      ·exact .inr ⟨by rw[ep];exact nz hs r1,vs,by rw[ep];exact r2,RVs.done D _ _ l r3⟩
      ·rw[ql e2] at hs;exact .inl ⟨Classical.byContradiction fun q=>hs (.inl q),fun q=>hs (.inr (ee.1 q))⟩
    |clo f a b=>
     obtain⟨r1,a',b',r2,r3,r4⟩:=r;exact⟨by rw[ep];exact nz ⟨_,e2,trivial⟩ r1,a',b',by rw[ep];exact r2,RFs.done D _ _ l.1 r3,RFs.done D _ _ l.2 r4⟩
   ·obtain rfl:=zuG (h4.symm.trans ho');rcases r with⟨rfl,r'⟩|⟨r1,vs,r2,r3⟩
    ·cases h5;exact .inl ⟨rfl,fun q=>r' (ee.1 q)⟩
    ·by_cases hs:sol R' i
     ·exact .inr ⟨by rw[ep];exact nz hs r1,vs,by rw[ep];exact r2,h5.sound D _ r3⟩
     ·rw[ql e2] at hs;have hc:cs=[]:=Classical.byContradiction fun q=>hs (.inl q);subst hc;cases h5;exact .inl ⟨rfl,fun q=>hs (.inr (ee.1 q))⟩
  ·obtain⟨j,rfl⟩:∃j,i=R.g.length+j:=⟨i-R.g.length,by omega⟩
   have ho':O[j]? =some o:=by simp only[XE.done] at ho;rw[zuN (by rw[h.l2];omega),h.l2,zvI] at ho;exact ho
   rcases h.ko j o ho' with⟨h1,t,z,rfl⟩|⟨k,w,t,z,cs,cs',h1,h2,rfl,h3⟩
   ·refine .inl ⟨rfl,?_⟩;simp only[XE.done,zuQ (show¬R.g.length+j<R.g.length by omega),zvI,h1];exact id
   ·have e2:R'.g[R.g.length+k]? =some (.own w t z cs):=by rw[hg,zuN (by rw[h.l1];omega),h.l1,zvI];exact h2
    have ep:(R'.done R.g.length g2 K O).φ (R.g.length+j)=R'.φ (R.g.length+k):=by simp only[XE.done];rw[zuQ (by omega),zvI,h1]
    have ee:(R'.done R.g.length g2 K O).e (R.g.length+j)↔R'.e (R.g.length+k):=by simp only[XE.done,zuQ (show¬R.g.length+j<R.g.length by omega),zvI,h1]
    by_cases hs:sol R' (R.g.length+k)
    ·rcases H'.ob _ _ e2 with⟨r,r'⟩|⟨r1,vs,r2,r3⟩
     ·rw[ql e2] at hs;exact absurd r (hs.resolve_right r')
     ·refine .inr ⟨?_,vs,by rw[ep];exact r2,h3.sound D _ r3⟩;rw[ep];rintro(q|⟨k',q1,q2,q3⟩)
      ·exact r1 q
      ·have:=H'.inj _ _ hs q2 q3;obtain rfl:k=k':=by omega
       exact q1 j h1
    ·rw[ql e2] at hs;have hc:cs=[]:=Classical.byContradiction fun q=>hs (.inl q);subst hc;cases h3;exact .inl ⟨rfl,fun q=>hs (.inr (ee.1 q))⟩
 ·rcases src i hi with⟨a1,a2,a3⟩|⟨p,k,rfl,a1,a2,a3⟩<;>rcases src j hj with⟨b1,b2,b3⟩|⟨q,k',rfl,b1,b2,b3⟩
  ·exact H'.inj i j a2 b2 (by rw[←a3,←b3];exact e)
  ·have:=H'.inj _ _ a2 b2 (by rw[←a3,←b3];exact e);omega
  ·have:=H'.inj _ _ a2 b2 (by rw[←a3,←b3];exact e);omega
  ·have:=H'.inj _ _ a2 b2 (by rw[←a3,←b3];exact e);obtain rfl:k=k':=by omega
   rw[h.kn p q k a1 b1]
 ·rcases hj with hj|⟨k,q1,q2,rfl⟩
  ·exact H'.fz j hj
  ·exact(H'.not_z q2).2
def zcs(fr:XFr)(g:XH):ER→Option XF
 | .tmp t=>Zn fr t
 | .cell t a n=>(opX fr g (.load a n (.t t))).map (·.1)
def Q3(fr:XFr)(g:XH):List ER→Option (List XF)
 |[]=>some []
 |r::l=>
  match zcs fr g r with
  |some v=>(Q3 fr g l).map (v:: ·)
  |none=>none
def za2:List XF→XF
 |[v]=>v
 |l=> .tup l
def KRx(res:List ER)(Ψ:XF→XH→Prop):Ex→XFr→XH→Prop:=fun x fr g=>(x= .normal∨x= .ret)∧match Q3 fr g res with
 |some l=>l.all (fun x=>(fcX x).isSome)=true∧Ψ (za2 l) g
 |none=>False
theorem zpR{res:List ER}{Ψ:XF→XH→Prop}{fr:XFr}{g:XH}:KRx res Ψ .ret fr g↔match Q3 fr g res with
 |some l=>l.all (fun x=>(fcX x).isSome)=true∧Ψ (za2 l) g
 |none=>False:=by simp[KRx]
theorem ziL{res:List ER}{Ψ:XF→XH→Prop}{fr:XFr}{g:XH}:KRx res Ψ .normal fr g↔match Q3 fr g res with
 |some l=>l.all (fun x=>(fcX x).isSome)=true∧Ψ (za2 l) g
 |none=>False:=by simp[KRx]
def Gh(W:Nat→Prop)(g:XH)(Ψ:XF→XH→Prop):XF→XH→Prop:=fun u g'=>∀R R' u1,R.g=g→HR R→HR R'→Ex2 W R R'→R'.g=g'→RF R' u u1→∃R2 u2,R2.h=R'.h∧HR R2∧Ex2 W R R2∧RF R2 u2 u1∧Ψ u2 R2.g
theorem Gh.here{W:Nat→Prop}{g g':XH}{Ψ:XF→XH→Prop}{u:XF}(h:Ψ u g'):Gh W g Ψ u g':=fun R R' u1 _ _ H' x e r=>⟨R',u,rfl,H',x,r,e▸h⟩
theorem Gh.keep{W:Nat→Prop}{g g1 g2 J:XH}(K:List (Option Nat))(O:XH){Ψ:XF→XH→Prop}{u u':XF}(h:FzH W g.length J K O g g1 g2)(hu:FzF g.length J K O u u')(hp:Ψ u' (g2++O)):Gh W g Ψ u (g1++J):=by rintro R R' u1 rfl H H' x e r;obtain⟨a1,a2,a3⟩:=zeL H H' x e h;exact⟨R'.done R.g.length g2 K O,u',rfl,a2,a1,hu.sound a3 _ r,hp⟩
theorem Gh.fz{W:Nat→Prop}{g g1 g2 J:XH}{Ψ:XF→XH→Prop}{u u':XF}(h:FzH W g.length J [] [] g g1 g2)(hu:FzF g.length J [] [] u u')(hp:Ψ u' g2):Gh W g Ψ u (g1++J):=Gh.keep [] [] h hu (by rw[zvl];exact hp)
theorem Gh.pure{W:Nat→Prop}{g J:XH}{Ψ:XF→XH→Prop}{u u':XF}(hu:FzF g.length J [] [] u u')(hp:Ψ u' g):Gh W g Ψ u (g++J):=Gh.fz FzH.refl hu hp
theorem Gh.pure0{W:Nat→Prop}{g:XH}{Ψ:XF→XH→Prop}{u u':XF}(hu:FzF g.length [] [] [] u u')(hp:Ψ u' g):Gh W g Ψ u g:=by
 have:=Gh.pure (W:=W) hu hp
 rwa [zvl] at this
def zaT:Nat→List XF→XFr
 |_,[]=>[]
 |n,v::r=>(n,some v)::zaT (n+1) r
theorem RFr.init{R:XE}:∀{a:List XF} {b:List FV} (n:Nat),RFs R a b→RFr R (zaT n a) (jj n b)
 |[],[],n,_=>by simp[zaT,jj,RFr]
 |a::r,b::s,n,h=>by
  simp only[RFs] at h;simp only[zaT,jj,RFr];exact⟨trivial,h.1,RFr.init (n+1) h.2⟩
 |[],_::_,_,h=>by simp[RFs] at h
 |_::_,[],_,h=>by simp[RFs] at h
theorem RFs.len{R:XE}:∀{a:List XF} {b:List FV},RFs R a b→a.length=b.length
 |[],[],_=>rfl
 |a::r,b::s,h=>by
  simp only[RFs] at h;simp[RFs.len h.2]
 |[],_::_,h=>by simp[RFs] at h
 |_::_,[],h=>by simp[RFs] at h
theorem znX{R:XE}(H:HR R){a:XFr}{b:Fr}(h:RFr R a b){t n:Nat}{agg:Bool}{u:XF}{g':XH}(e:opX a R.g (.load agg n (.t t))=some (u,g')):∃v',opE b R.h (.load agg n (.t t))=some (v',R.h)∧RF R u v':=(zdI H h e).2
theorem zkY{R:XE}(H:HR R){a:XFr}{b:Fr}(h:RFr R a b):∀{res:List ER} {l:List XF},Q3 a R.g res=some l→∃l',jO b R.h res=some l'∧RFs R l l'
 |[],l,e=>by
  simp only[Q3,zuE] at e;subst e;exact⟨[],rfl,by simp[RFs]⟩
 |r::res,l,e=>by
  simp only[Q3] at e;split at e
  ·rename_i v ev;obtain⟨m,em,rfl⟩:=map_some e;obtain⟨m',h1,h2⟩:=zkY H h em;have:∃v',zgG b R.h r=some v'∧RF R v v':=by
    cases r with
    |tmp t=>exact h.get.1 v ev
    |cell t g n=>
     simp only[zcs] at ev;obtain⟨⟨u,g'⟩,e1,rfl⟩:=map_some ev;obtain⟨v',q1,q2⟩:=znX H h e1;exact⟨v',by simp only[zgG,q1,zvb],q2⟩
   obtain⟨v',h3,h4⟩:=this;exact⟨v'::m',by simp only[jO,h3,h1];rfl,by simp only[RFs];exact⟨h4,h2⟩⟩
  ·cases e
theorem zq3{R:XE}:∀{l:List XF} {l':List FV},RFs R l l'→RF R (za2 l) (qL l')
 |[],[],h=>by simp[za2,qL,RF,RFs]
 |[a],[b],h=>by
  simp only[RFs] at h;exact h.1
 |a::c::r,b::d::s,h=>by
  simp only[za2,qL,RF];exact h
 |[],_::_,h=>by simp[RFs] at h
 |_::_,[],h=>by simp[RFs] at h
 |[_],_::_::_,h=>by simp[RFs] at h
 |_::_::_,[_],h=>by simp[RFs] at h
theorem Cl.intro{C:Nat→Option EF}{W:Nat→Prop}{f:Nat}{e:EF}(hf:C f=some e){args:List XF}(hl:args.length≤e.slots){g:XH}{Ψ:XF→XH→Prop}(w:wk C (fun i=>g.length≤i∨W i) e.body (zaT 0 args) g (KRx e.res (Gh W g Ψ))):Cl C W f args g Ψ:=by
 rintro R args1 rfl H ra;refine WPc.intro hf (by rw[←ra.len];exact hl) ((Yz w R _ rfl H (RFr.init 0 ra)).mono ?_);rintro x fr1 h1 ⟨R',fr,rfl,a2,a3,a4,a5,a6⟩;refine⟨a5,?_⟩;split at a6
 ·rename_i l el;obtain⟨l',b1,b2⟩:=zkY a2 a4 el;have x2:Ex2 W R R':=a3.wide fun i hi hb=>hb.resolve_left (by omega);obtain⟨R2,u2,c1,c2,c3,c4,c5⟩:=a6.2 R R' _ rfl H a2 x2 rfl (zq3 b2);refine⟨qL l',?_,R2,u2,c1,c2,c3,c4,c5⟩;simp only[qR,b1];rw[zuO (JY b2 a6.1)]
 ·exact a6.elim
theorem Cl.post{C:Nat→Option EF}{W:Nat→Prop}{f:Nat}{args:List XF}{g:XH}{Φ:XF→XH→Prop}(hs:∀Ψ:XF→XH→Prop,(∀u g',Φ u g'→Ψ u g')→Cl C W f args g Ψ):Cl C W f args g Φ:=hs Φ fun _ _ x=>x
theorem Cl.ip{C:Nat→Option EF}{W:Nat→Prop}{f:Nat}{e:EF}(hf:C f=some e){args:List XF}(hl:args.length≤e.slots){g:XH}{Φ:XF→XH→Prop}(w:∀Ψ:XF→XH→Prop,(∀u g',Φ u g'→Ψ u g')→wk C (fun i=>g.length≤i∨W i) e.body (zaT 0 args) g (KRx e.res (Gh W g Ψ))):Cl C W f args g Φ:=Cl.post fun Ψ h=>Cl.intro hf hl (w Ψ h)
theorem zb.go{C:Nat→Option EF}{B W:Nat→Prop}{f:Nat}{args:List XF}{g:XH}{Φ Ψ:XF→XH→Prop}(w:Cl C W f args g Φ)(hW:∀i,i<g.length→W i→B i)(h:∀u g',Φ u g'→Ψ u g'):zb C B f args g Ψ:=⟨W,hW,w.mono h⟩
structure Pure(C:Nat→Option EF)(f:Nat)(args:List XF)(r:XF):Prop where
 spec:∀g,Cl C (fun _=>False) f args g (fun u g'=>u=r∧g'=g)
theorem zb.pure{C:Nat→Option EF}{B:Nat→Prop}{f:Nat}{args:List XF}{r:XF}{g:XH}{Ψ:XF→XH→Prop}(w:Pure C f args r)(h:Ψ r g):zb C B f args g Ψ:=
 zb.go (w.spec g) (fun _ _ hf=>hf.elim) (by rintro u g' ⟨rfl,rfl⟩;exact h)
theorem Pure.intro{C:Nat→Option EF}{f:Nat}{e:EF}(hf:C f=some e){args:List XF}(hl:args.length≤e.slots){r:XF}(w:∀(g:XH) (Ψ:XF→XH→Prop),(∀J u,FzF g.length J [] [] u r→Ψ u (g++J))→(∀u,FzF g.length [] [] [] u r→Ψ u g)→wk C (fun i=>g.length≤i∨False) e.body (zaT 0 args) g (KRx e.res Ψ)):Pure C f args r:=⟨fun g=>
 Cl.intro hf hl (w g _ (fun J u hu=>Gh.pure hu ⟨rfl,rfl⟩) (fun u hu=>Gh.pure0 hu ⟨rfl,rfl⟩))⟩
end Go.Proofs.YtdmcfjkgopmlgaaGreatDoor.Ev
