import Derived.Test.YthppafnlnnpciaaGreatDoorQ3
set_option linter.unusedVariables false
set_option linter.unusedSimpArgs false
namespace Go.Proofs.YthppafnlnnpciaaGreatDoor
structure PS where
 ts:List Tok
 vr:Bool
 nd:Nat
abbrev PR (α:Type):=Except (Nat × Int) (α × PS)
def hdT (x:PS):Tok:=x.ts.headD ⟨5,[],0⟩
def isS (x:PS) (s:List UInt8):Bool:=(hdT x).k==1&&(hdT x).s==s
def nxT (x:PS):PS:=if (hdT x).k=5 then x else { x with ts:=x.ts.drop 1 }
def takeQ (s:List UInt8) (x:PS):PR Unit:=if isS x s=true then .ok ((),nxT x) else .error ((hdT x).i,3)
def nameQ (x:PS):PR (List UInt8):=if (hdT x).k=2 then .ok ((hdT x).s,nxT x) else .error ((hdT x).i,3)
def limQ (n most:Nat) (x:PS):PR Unit:=if most<=n then .error ((hdT x).i,4) else .ok ((),x)
theorem zy {n most:Nat} {x y:PS} {u:Unit} (h:limQ n most x = .ok (u,y)):n<most/\y=x:=by
 unfold limQ at h
 split at h
 . cases h
 . cases h;exact ⟨by omega,rfl⟩
def zb {α β:Type} (r:PR α) (f:α->PS->PR β):PR β:=
 match r with
 |.error e => .error e
 |.ok (a,x)=>f a x
def strD (s:List UInt8):D:=.str ⟨s.toArray⟩
def valD (k n:Int) (s:List UInt8) (items:List D) (keys:List (List UInt8)):D:=.obj [.int k,.int n,strD s,.list items,.list (keys.map strD)]
def refD (n:List UInt8) (w:List Int):D:=.obj [strD n,.list (w.map .int)]
def argD (n:List UInt8) (v:D):D:=.obj [strD n,v]
def dirD (n:List UInt8) (aa:List D):D:=.obj [strD n,.list aa]
def selD (k:Int) (al n on:List UInt8) (aa ds ss:List D):D:=.obj [.int k,strD al,strD n,strD on,.list aa,.list ds,.list ss]
def varD (n:List UInt8) (t:D) (h:Bool) (v:D):D:=.obj [strD n,t,.bool h,v]
def opD (k:Int) (n:List UInt8) (vs ss:List D):D:=.obj [.int k,strD n,.list vs,.list ss]
def zER:D:=valD 0 0 [] [] []
def openQ:Nat->PS->Nat × PS
 |0,x=>(0,x)
 |f+1,x=>if isS x [91]=true then ((openQ f (nxT x)).1+1,(openQ f (nxT x)).2) else (0,x)
def closeQ:Nat->List Int->PS->PR (List Int)
 |0,w,x => .ok (if isS x [33]=true then (1::w,nxT x) else (w,x))
 |n+1,w,x=>zb (takeQ [93] (if isS x [33]=true then nxT x else x)) fun _ y=>closeQ n (2::(if isS x [33]=true then 1::w else w)) y
def zAh (x:PS):PR (List UInt8 × List Int):=
 zb (nameQ (openQ x.ts.length x).2) fun n y=>zb (closeQ (openQ x.ts.length x).1 [] y) fun w z => .ok ((n,w),z)
def typQ (x:PS):PR D:=zb (zAh x) fun t y=>if t.2.length>24 then .error ((hdT x).i,5) else .ok (refD t.1 t.2,y)
def numQ (l:List UInt8):Int:=match numU l with | .ok n=>n | _=>0
def zC4 (s:List UInt8):D:=
 if s=[116,114,117,101] then valD 1 1 [] [] [] else if s=[102,97,108,115,101] then valD 1 0 [] [] [] else if s=[110,117,108,108] then zER else valD 4 0 s [] []
def zBU (x:PS):Bool:=(hdT x).k==5||((hdT x).k==1 && !isS x [91] && !isS x [123] && !(x.vr&&isS x [36]))
def itemsQ (val:PS->PR D):Nat->List D->PS->PR (List D)
 |0,_,x => .error ((hdT x).i,0)
 |f+1,acc,x=>if isS x [93]=true then .ok (acc,nxT x) else zb (val x) fun v y=>itemsQ val f (acc++[v]) y
def zu (val:PS->PR D):Nat->List (List UInt8)->List D->PS->PR (List (List UInt8) × List D)
 |0,_,_,x => .error ((hdT x).i,0)
 |f+1,ks,acc,x =>
  if isS x [125]=true then .ok ((ks,acc),nxT x)
  else zb (nameQ x) fun k y=>if ks.contains k=true then .error ((hdT x).i,7) else
   zb (takeQ [58] y) fun _ z=>zb (val z) fun v u=>zu val f (ks++[k]) (acc++[v]) u
def valueQ:Nat->Nat->PS->PR D
 |0,_,x => .error ((hdT x).i,0)
 |f+1,lv,x =>
  if zBU x=true then .error ((hdT x).i,3)
  else if 24<lv then .error ((hdT x).i,5)
  else if 4096<=x.nd then .error ((hdT x).i,4)
  else
   let y:PS:={ nxT x with nd:=x.nd+1 }
   if (hdT x).k=3 then .ok (valD 2 (numQ (hdT x).s) [] [] [],y)
   else if (hdT x).k=4 then .ok (valD 3 0 (hdT x).s [] [],y)
   else if (hdT x).k=2 then .ok (zC4 (hdT x).s,y)
   else if (hdT x).s=[36] then zb (nameQ y) fun n z => .ok (valD 7 0 n [] [],z)
   else if (hdT x).s=[91] then zb (itemsQ (valueQ f (lv+1)) (y.ts.length+1) [] y) fun l z => .ok (valD 5 0 [] l [],z)
   else zb (zu (valueQ f (lv+1)) (y.ts.length+1) [] [] y) fun l z => .ok (valD 6 0 [] l.2 l.1,z)
def zAO (x:PS):PR D:=valueQ 25 1 { x with nd:=0 }
def zC6:Nat->List D->PS->PR (List D)
 |0,_,x => .error ((hdT x).i,0)
 |f+1,acc,x =>
  if acc.length≠0/\isS x [41]=true then .ok (acc,nxT x)
  else if (hdT x).k=2/\16<=acc.length then .error ((hdT x).i,4)
  else zb (nameQ x) fun n y=>zb (takeQ [58] y) fun _ z=>zb (zAO z) fun v u=>zC6 f (acc++[argD n v]) u
def zBc (x:PS):PR (List D):=if isS x [40]=true then zC6 x.ts.length [] (nxT x) else .ok ([],x)
def dirsF:Nat->List D->PS->PR (List D)
 |0,_,x => .error ((hdT x).i,0)
 |f+1,acc,x =>
  if isS x [64]=true then
   (if 16<=acc.length then .error ((hdT x).i,4) else zb (nameQ (nxT x)) fun n y=>zb (zBc y) fun aa z=>dirsF f (acc++[dirD n aa]) z)
  else .ok (acc,x)
def zAQ (x:PS):PR (List D):=dirsF (x.ts.length+1) [] x
def onT:List UInt8:=[111,110]
def selQ (sels:PS->PR (List D)) (x:PS):PR D:=
 if isS x [46,46,46]=true then
  let y:=nxT x
  if (hdT y).k=2/\(hdT y).s≠onT then zb (zAQ (nxT y)) fun ds z => .ok (selD 2 [] (hdT y).s [] [] ds [],z)
  else
   zb (if (hdT y).k=2 then nameQ (nxT y) else .ok ([],y)) fun on z =>
    zb (zAQ z) fun ds u=>zb (sels u) fun ss v => .ok (selD 3 [] [] on [] ds ss,v)
 else
  zb (nameQ x) fun n y =>
   zb (if isS y [58]=true then zb (nameQ (nxT y)) fun m z => .ok ((n,m),z) else .ok (([],n),y)) fun an z =>
    zb (zBc z) fun aa u=>zb (zAQ u) fun ds v =>
     zb (if isS v [123]=true then sels v else .ok ([],v)) fun ss o => .ok (selD 1 an.1 an.2 [] aa ds ss,o)
def setF (sel:PS->PR D):Nat->List D->PS->PR (List D)
 |0,_,x => .error ((hdT x).i,0)
 |f+1,acc,x =>
  if acc.length≠0/\isS x [125]=true then .ok (acc,nxT x)
  else if ((hdT x).k=2\/isS x [46,46,46]=true)/\64<=acc.length then .error ((hdT x).i,4)
  else zb (sel x) fun s y=>setF sel f (acc++[s]) y
def zGx:Nat->Nat->PS->PR (List D)
 |0,_,x => .error ((hdT x).i,0)
 |f+1,lv,x =>
  if isS x [123]=true/\24<lv then .error ((hdT x).i,5)
  else zb (takeQ [123] x) fun _ y=>setF (selQ (zGx f (lv+1))) (y.ts.length+1) [] y
def setQ (x:PS):PR (List D):=zGx 25 1 x
def varsF:Nat->List D->PS->PR (List D)
 |0,_,x => .error ((hdT x).i,0)
 |f+1,acc,x =>
  if acc.length≠0/\isS x [41]=true then .ok (acc,nxT x)
  else if isS x [36]=true/\16<=acc.length then .error ((hdT x).i,4)
  else zb (takeQ [36] x) fun _ y=>zb (nameQ y) fun n z=>zb (takeQ [58] z) fun _ u=>zb (typQ u) fun t v =>
   zb (if isS v [61]=true then zb (zAO { nxT v with vr:=false }) fun d o => .ok ((true,d),{ o with vr:=true }) else .ok ((false,zER),v)) fun d o =>
    varsF f (acc++[varD n t d.1 d.2]) o
def opQ (k:Int) (x:PS):PR D:=
 zb (if (hdT x).k=2 then .ok ((hdT x).s,nxT x) else .ok ([],x)) fun n y =>
  zb (if isS y [40]=true then varsF y.ts.length [] (nxT y) else .ok ([],y)) fun vs z =>
   zb (setQ z) fun ss u => .ok (opD k n vs ss,u)
end Go.Proofs.YthppafnlnnpciaaGreatDoor
