/- Types of the seat, how they lie in rows; tables of the program. Printed by tfn.py. -/
import Derived.Test.YtibiooglhpjojaaGreatDoorPe
import Derived.KernelRfl
import Derived.Test.YtibiooglhpjojaaGreatDoorProg
import Derived.Test.YtibiooglhpjojaaGreatDoorH0
set_option linter.unusedSimpArgs false
set_option linter.unusedVariables false
namespace Go.AW.M
open Go.RowKit Go.Proofs
set_option maxRecDepth 100000
structure Zca where
 After:Int
 Text:ByteArray
 deriving DecidableEq
def Zca.row (x:Zca):Row:=[.lit (.int .i64 x.After),.lit (.string x.Text)]
structure Zau where
 Kind:Int
 Name:ByteArray
 deriving DecidableEq
def Zau.row (x:Zau):Row:=[.lit (.int .i64 x.Kind),.lit (.string x.Name)]
structure Zad where
 Dash:Bool
 Words:List ByteArray
 deriving DecidableEq
def Zad.row (x:Zad):Row:=[.lit (.bool x.Dash),slv 1 (List.map (fun x:ByteArray=>[.lit (.string x)]) x.Words)]
structure Zav where
 Name:ByteArray
 Value:ByteArray
 deriving DecidableEq
def Zav.row (x:Zav):Row:=[.lit (.string x.Name),.lit (.string x.Value)]
structure Zae where
 Name:ByteArray
 Kind:Int
 Desc:ByteArray
 Default:Bool
 Rels:List Zau
 Every:Int
 Burst:Int
 Type_:Int
 Pre:List Zad
 Start:List Zad
 Post:List Zad
 Stop:List Zad
 Reload:List Zad
 Remain:Bool
 Restart:Int
 Pause:Int
 Up:Int
 Down:Int
 Success:List Int
 Env:List Zav
 Sockets:List ByteArray
 Ports:List Int
 Backlog:Int
 FdName:ByteArray
 Unit_:ByteArray
 Boot:List Int
 Active:List Int
 Idle:List Int
 Calendar:List ByteArray
 Persistent:Bool
 WantedBy:List ByteArray
 RequiredBy:List ByteArray
 Alias:List ByteArray
 Also:List ByteArray
 Instance:ByteArray
 deriving DecidableEq
def Zae.row (x:Zae):Row:=[.lit (.string x.Name),.lit (.int .i64 x.Kind),.lit (.string x.Desc),.lit (.bool x.Default),slv 2 (List.map Zau.row x.Rels),.lit (.int .i64 x.Every),.lit (.int .i64 x.Burst),.lit (.int .i64 x.Type_),slv 2 (List.map Zad.row x.Pre),slv 2 (List.map Zad.row x.Start),slv 2 (List.map Zad.row x.Post),slv 2 (List.map Zad.row x.Stop),slv 2 (List.map Zad.row x.Reload),.lit (.bool x.Remain),.lit (.int .i64 x.Restart),.lit (.int .i64 x.Pause),.lit (.int .i64 x.Up),.lit (.int .i64 x.Down),slv 1 (List.map (fun x:Int=>[.lit (.int .i64 x)]) x.Success),slv 2 (List.map Zav.row x.Env),slv 1 (List.map (fun x:ByteArray=>[.lit (.string x)]) x.Sockets),slv 1 (List.map (fun x:Int=>[.lit (.int .i64 x)]) x.Ports),.lit (.int .i64 x.Backlog),.lit (.string x.FdName),.lit (.string x.Unit_),slv 1 (List.map (fun x:Int=>[.lit (.int .i64 x)]) x.Boot),slv 1 (List.map (fun x:Int=>[.lit (.int .i64 x)]) x.Active),slv 1 (List.map (fun x:Int=>[.lit (.int .i64 x)]) x.Idle),slv 1 (List.map (fun x:ByteArray=>[.lit (.string x)]) x.Calendar),.lit (.bool x.Persistent),slv 1 (List.map (fun x:ByteArray=>[.lit (.string x)]) x.WantedBy),slv 1 (List.map (fun x:ByteArray=>[.lit (.string x)]) x.RequiredBy),slv 1 (List.map (fun x:ByteArray=>[.lit (.string x)]) x.Alias),slv 1 (List.map (fun x:ByteArray=>[.lit (.string x)]) x.Also),.lit (.string x.Instance)]
structure Zal where
 Part:Int
 Num:Int
 Begun:Int
 Told:Int
 Said:Int
 Ready:Bool
 deriving DecidableEq
def Zal.row (x:Zal):Row:=[.lit (.int .i64 x.Part),.lit (.int .i64 x.Num),.lit (.int .i64 x.Begun),.lit (.int .i64 x.Told),.lit (.int .i64 x.Said),.lit (.bool x.Ready)]
structure Zao where
 Socket:ByteArray
 Num:Int
 Tries:Int
 Takes:Int
 Until:Int
 deriving DecidableEq
def Zao.row (x:Zao):Row:=[.lit (.string x.Socket),.lit (.int .i64 x.Num),.lit (.int .i64 x.Tries),.lit (.int .i64 x.Takes),.lit (.int .i64 x.Until)]
structure Zac where
 U:Zae
 State:Int
 Since:Int
 Attempt:Int
 Begins:List Int
 Result:Int
 Main:Zal
 Aux:Zal
 Over:Int
 Wish:Bool
 Bad:Bool
 Serves:List Zao
 Waits:List Zao
 Seen:Int
 Num:Int
 Last:Int
 Next:Int
 Rows:Int
 deriving DecidableEq
def Zac.row (x:Zac):Row:=Zae.row x.U++([.lit (.int .i64 x.State),.lit (.int .i64 x.Since),.lit (.int .i64 x.Attempt),slv 1 (List.map (fun x:Int=>[.lit (.int .i64 x)]) x.Begins),.lit (.int .i64 x.Result)]++(Zal.row x.Main++(Zal.row x.Aux++([.lit (.int .i64 x.Over),.lit (.bool x.Wish),.lit (.bool x.Bad),slv 5 (List.map Zao.row x.Serves),slv 5 (List.map Zao.row x.Waits),.lit (.int .i64 x.Seen),.lit (.int .i64 x.Num),.lit (.int .i64 x.Last),.lit (.int .i64 x.Next),.lit (.int .i64 x.Rows)]))))
structure Zaq where
 Time:Int
 Unit_:ByteArray
 N:Int
 Kind:Int
 Text:ByteArray
 deriving DecidableEq
def Zaq.row (x:Zaq):Row:=[.lit (.int .i64 x.Time),.lit (.string x.Unit_),.lit (.int .i64 x.N),.lit (.int .i64 x.Kind),.lit (.string x.Text)]
structure Zbu where
 At:Int
 Unit_:ByteArray
 Type_:Int
 deriving DecidableEq
def Zbu.row (x:Zbu):Row:=[.lit (.int .i64 x.At),.lit (.string x.Unit_),.lit (.int .i64 x.Type_)]
structure Zab where
 Rows:List Zaq
 Asks:List Zbu
 Back:List Zao
 Fell:Bool
 Failed:Bool
 deriving DecidableEq
def Zab.row (x:Zab):Row:=[slv 5 (List.map Zaq.row x.Rows),slv 3 (List.map Zbu.row x.Asks),slv 5 (List.map Zao.row x.Back),.lit (.bool x.Fell),.lit (.bool x.Failed)]
structure Zam where
 Unit_:ByteArray
 Part:Int
 Num:Int
 Attempt:Int
 Lasts:Int
 Code:Int
 Ready:Int
 Dies:Int
 Says:List Zca
 deriving DecidableEq
def Zam.row (x:Zam):Row:=[.lit (.string x.Unit_),.lit (.int .i64 x.Part),.lit (.int .i64 x.Num),.lit (.int .i64 x.Attempt),.lit (.int .i64 x.Lasts),.lit (.int .i64 x.Code),.lit (.int .i64 x.Ready),.lit (.int .i64 x.Dies),slv 2 (List.map Zca.row x.Says)]
structure Zah where
 At:Int
 Port:Int
 Takes:Int
 deriving DecidableEq
def Zah.row (x:Zah):Row:=[.lit (.int .i64 x.At),.lit (.int .i64 x.Port),.lit (.int .i64 x.Takes)]
structure Zaf where
 Acts:List Zam
 Calls:List Zah
 Asks:List Zbu
 deriving DecidableEq
def Zaf.row (x:Zaf):Row:=[slv 9 (List.map Zam.row x.Acts),slv 3 (List.map Zah.row x.Calls),slv 3 (List.map Zbu.row x.Asks)]
structure Zas where
 c:Zac
 now:Int
 out:Zab
 deriving DecidableEq
def Zas.row (x:Zas):Row:=Zac.row x.c++([.lit (.int .i64 x.now)]++(Zab.row x.out))
structure Zai where
 Kind:Int
 Prefix:ByteArray
 Instance:ByteArray
 At:Bool
 deriving DecidableEq
def Zai.row (x:Zai):Row:=[.lit (.int .i64 x.Kind),.lit (.string x.Prefix),.lit (.string x.Instance),.lit (.bool x.At)]
structure Zaa where
 w:Zaf
 c:Zac
 now:Int
 out:Zab
 deriving DecidableEq
def Zaa.row (x:Zaa):Row:=Zaf.row x.w++(Zac.row x.c++([.lit (.int .i64 x.now)]++(Zab.row x.out)))
def z0:=(⟨(0:Int),(⟨#[]⟩:ByteArray),(0:Int),(0:Int),(⟨#[]⟩:ByteArray)⟩:Zaq)
def z1:=(⟨(⟨#[]⟩:ByteArray),(0:Int),(0:Int),(0:Int),(0:Int)⟩:Zao)
def z2:=(⟨(⟨(⟨(⟨#[]⟩:ByteArray),(0:Int),(⟨#[]⟩:ByteArray),false,[],(0:Int),(0:Int),(0:Int),[],[],[],[],[],false,(0:Int),(0:Int),(0:Int),(0:Int),[],[],[],[],(0:Int),(⟨#[]⟩:ByteArray),(⟨#[]⟩:ByteArray),[],[],[],[],false,[],[],[],[],(⟨#[]⟩:ByteArray)⟩:Zae),(0:Int),(0:Int),(0:Int),[],(0:Int),(⟨(0:Int),(0:Int),(0:Int),(0:Int),(0:Int),false⟩:Zal),(⟨(0:Int),(0:Int),(0:Int),(0:Int),(0:Int),false⟩:Zal),(0:Int),false,false,[],[],(0:Int),(0:Int),(0:Int),(0:Int),(0:Int)⟩:Zac),(0:Int),(⟨[],[],[],false,false⟩:Zab)⟩:Zas)
def z3:=(⟨(0:Int),(0:Int),(0:Int),(0:Int),(0:Int),false⟩:Zal)
def z4:=(⟨(⟨#[]⟩:ByteArray),(0:Int),(0:Int),(0:Int),(0:Int),(0:Int),(0:Int),(0:Int),[]⟩:Zam)
def z5:=(⟨(0:Int),(⟨#[]⟩:ByteArray),(⟨#[]⟩:ByteArray),false⟩:Zai)
def z6:=(⟨(⟨[],[],[]⟩:Zaf),(⟨(⟨(⟨#[]⟩:ByteArray),(0:Int),(⟨#[]⟩:ByteArray),false,[],(0:Int),(0:Int),(0:Int),[],[],[],[],[],false,(0:Int),(0:Int),(0:Int),(0:Int),[],[],[],[],(0:Int),(⟨#[]⟩:ByteArray),(⟨#[]⟩:ByteArray),[],[],[],[],false,[],[],[],[],(⟨#[]⟩:ByteArray)⟩:Zae),(0:Int),(0:Int),(0:Int),[],(0:Int),(⟨(0:Int),(0:Int),(0:Int),(0:Int),(0:Int),false⟩:Zal),(⟨(0:Int),(0:Int),(0:Int),(0:Int),(0:Int),false⟩:Zal),(0:Int),false,false,[],[],(0:Int),(0:Int),(0:Int),(0:Int),(0:Int)⟩:Zac),(0:Int),(⟨[],[],[],false,false⟩:Zab)⟩:Zaa)
def z7:=(⟨(⟨(⟨#[]⟩:ByteArray),(0:Int),(⟨#[]⟩:ByteArray),false,[],(0:Int),(0:Int),(0:Int),[],[],[],[],[],false,(0:Int),(0:Int),(0:Int),(0:Int),[],[],[],[],(0:Int),(⟨#[]⟩:ByteArray),(⟨#[]⟩:ByteArray),[],[],[],[],false,[],[],[],[],(⟨#[]⟩:ByteArray)⟩:Zae),(0:Int),(0:Int),(0:Int),[],(0:Int),(⟨(0:Int),(0:Int),(0:Int),(0:Int),(0:Int),false⟩:Zal),(⟨(0:Int),(0:Int),(0:Int),(0:Int),(0:Int),false⟩:Zal),(0:Int),false,false,[],[],(0:Int),(0:Int),(0:Int),(0:Int),(0:Int)⟩:Zac)
def U:Uni:=uniOf [(134,⟨Zca,Zca.row,2,fun _=>rfl⟩),
 (162,⟨Zau,Zau.row,2,fun _=>rfl⟩),
 (158,⟨Zad,Zad.row,2,fun _=>rfl⟩),
 (160,⟨Zav,Zav.row,2,fun _=>rfl⟩),
 (28,⟨Zae,Zae.row,35,fun _=>rfl⟩),
 (30,⟨Zal,Zal.row,6,fun _=>rfl⟩),
 (105,⟨Zao,Zao.row,5,fun _=>rfl⟩),
 (33,⟨Zac,Zac.row,62,fun _=>rfl⟩),
 (62,⟨Zaq,Zaq.row,5,fun _=>rfl⟩),
 (92,⟨Zbu,Zbu.row,3,fun _=>rfl⟩),
 (47,⟨Zab,Zab.row,5,fun _=>rfl⟩),
 (89,⟨Zam,Zam.row,9,fun _=>rfl⟩),
 (82,⟨Zah,Zah.row,3,fun _=>rfl⟩),
 (43,⟨Zaf,Zaf.row,3,fun _=>rfl⟩),
 (100,⟨Zas,Zas.row,68,fun _=>rfl⟩),
 (131,⟨Zai,Zai.row,4,fun _=>rfl⟩),
 (96,⟨Zaa,Zaa.row,71,fun _=>rfl⟩)]
def gs:List (Sigma fun m=>List (GetE U m)):=[⟨33,[⟨0,1,.str,fun(x:Zac)=>x.U.Name,fun _=>⟨lB rfl,rfl⟩⟩,⟨0,35,.st 28,fun(x:Zac)=>x.U,fun _=>⟨lB rfl,rfl⟩⟩,⟨1,1,.ik .i64,fun(x:Zac)=>x.U.Kind,fun _=>⟨lB rfl,rfl⟩⟩,⟨4,1,.li (.st 162),fun(x:Zac)=>x.U.Rels,fun _=>⟨lB rfl,rfl⟩⟩,⟨5,1,.ik .i64,fun(x:Zac)=>x.U.Every,fun _=>⟨lB rfl,rfl⟩⟩,⟨6,1,.ik .i64,fun(x:Zac)=>x.U.Burst,fun _=>⟨lB rfl,rfl⟩⟩,⟨8,1,.li (.st 158),fun(x:Zac)=>x.U.Pre,fun _=>⟨lB rfl,rfl⟩⟩,⟨9,1,.li (.st 158),fun(x:Zac)=>x.U.Start,fun _=>⟨lB rfl,rfl⟩⟩,⟨10,1,.li (.st 158),fun(x:Zac)=>x.U.Post,fun _=>⟨lB rfl,rfl⟩⟩,⟨11,1,.li (.st 158),fun(x:Zac)=>x.U.Stop,fun _=>⟨lB rfl,rfl⟩⟩,⟨12,1,.li (.st 158),fun(x:Zac)=>x.U.Reload,fun _=>⟨lB rfl,rfl⟩⟩,⟨18,1,.li (.ik .i64),fun(x:Zac)=>x.U.Success,fun _=>⟨lB rfl,rfl⟩⟩,⟨19,1,.li (.st 160),fun(x:Zac)=>x.U.Env,fun _=>⟨lB rfl,rfl⟩⟩,⟨20,1,.li (.str),fun(x:Zac)=>x.U.Sockets,fun _=>⟨lB rfl,rfl⟩⟩,⟨21,1,.li (.ik .i64),fun(x:Zac)=>x.U.Ports,fun _=>⟨lB rfl,rfl⟩⟩,⟨22,1,.ik .i64,fun(x:Zac)=>x.U.Backlog,fun _=>⟨lB rfl,rfl⟩⟩,⟨25,1,.li (.ik .i64),fun(x:Zac)=>x.U.Boot,fun _=>⟨lB rfl,rfl⟩⟩,⟨26,1,.li (.ik .i64),fun(x:Zac)=>x.U.Active,fun _=>⟨lB rfl,rfl⟩⟩,⟨27,1,.li (.ik .i64),fun(x:Zac)=>x.U.Idle,fun _=>⟨lB rfl,rfl⟩⟩,⟨28,1,.li (.str),fun(x:Zac)=>x.U.Calendar,fun _=>⟨lB rfl,rfl⟩⟩,⟨30,1,.li (.str),fun(x:Zac)=>x.U.WantedBy,fun _=>⟨lB rfl,rfl⟩⟩,⟨31,1,.li (.str),fun(x:Zac)=>x.U.RequiredBy,fun _=>⟨lB rfl,rfl⟩⟩,⟨32,1,.li (.str),fun(x:Zac)=>x.U.Alias,fun _=>⟨lB rfl,rfl⟩⟩,⟨33,1,.li (.str),fun(x:Zac)=>x.U.Also,fun _=>⟨lB rfl,rfl⟩⟩,⟨35,1,.ik .i64,fun(x:Zac)=>x.State,fun _=>⟨lB rfl,rfl⟩⟩,⟨37,1,.ik .i64,fun(x:Zac)=>x.Attempt,fun _=>⟨lB rfl,rfl⟩⟩,⟨38,1,.li (.ik .i64),fun(x:Zac)=>x.Begins,fun _=>⟨lB rfl,rfl⟩⟩,⟨39,1,.ik .i64,fun(x:Zac)=>x.Result,fun _=>⟨lB rfl,rfl⟩⟩,⟨40,1,.ik .i64,fun(x:Zac)=>x.Main.Part,fun _=>⟨lB rfl,rfl⟩⟩,⟨40,6,.st 30,fun(x:Zac)=>x.Main,fun _=>⟨lB rfl,rfl⟩⟩,⟨43,1,.ik .i64,fun(x:Zac)=>x.Main.Told,fun _=>⟨lB rfl,rfl⟩⟩,⟨46,1,.ik .i64,fun(x:Zac)=>x.Aux.Part,fun _=>⟨lB rfl,rfl⟩⟩,⟨46,6,.st 30,fun(x:Zac)=>x.Aux,fun _=>⟨lB rfl,rfl⟩⟩,⟨52,1,.ik .i64,fun(x:Zac)=>x.Over,fun _=>⟨lB rfl,rfl⟩⟩,⟨55,1,.li (.st 105),fun(x:Zac)=>x.Serves,fun _=>⟨lB rfl,rfl⟩⟩,⟨56,1,.li (.st 105),fun(x:Zac)=>x.Waits,fun _=>⟨lB rfl,rfl⟩⟩,⟨57,1,.ik .i64,fun(x:Zac)=>x.Seen,fun _=>⟨lB rfl,rfl⟩⟩,⟨58,1,.ik .i64,fun(x:Zac)=>x.Num,fun _=>⟨lB rfl,rfl⟩⟩,⟨60,1,.ik .i64,fun(x:Zac)=>x.Next,fun _=>⟨lB rfl,rfl⟩⟩,⟨61,1,.ik .i64,fun(x:Zac)=>x.Rows,fun _=>⟨lB rfl,rfl⟩⟩]⟩,
 ⟨158,[⟨0,1,.bool,fun(x:Zad)=>x.Dash,fun _=>⟨lB rfl,rfl⟩⟩,⟨1,1,.li (.str),fun(x:Zad)=>x.Words,fun _=>⟨lB rfl,rfl⟩⟩]⟩,
 ⟨28,[⟨0,1,.str,fun(x:Zae)=>x.Name,fun _=>⟨lB rfl,rfl⟩⟩,⟨1,1,.ik .i64,fun(x:Zae)=>x.Kind,fun _=>⟨lB rfl,rfl⟩⟩,⟨4,1,.li (.st 162),fun(x:Zae)=>x.Rels,fun _=>⟨lB rfl,rfl⟩⟩,⟨5,1,.ik .i64,fun(x:Zae)=>x.Every,fun _=>⟨lB rfl,rfl⟩⟩,⟨6,1,.ik .i64,fun(x:Zae)=>x.Burst,fun _=>⟨lB rfl,rfl⟩⟩,⟨7,1,.ik .i64,fun(x:Zae)=>x.Type_,fun _=>⟨lB rfl,rfl⟩⟩,⟨8,1,.li (.st 158),fun(x:Zae)=>x.Pre,fun _=>⟨lB rfl,rfl⟩⟩,⟨9,1,.li (.st 158),fun(x:Zae)=>x.Start,fun _=>⟨lB rfl,rfl⟩⟩,⟨10,1,.li (.st 158),fun(x:Zae)=>x.Post,fun _=>⟨lB rfl,rfl⟩⟩,⟨11,1,.li (.st 158),fun(x:Zae)=>x.Stop,fun _=>⟨lB rfl,rfl⟩⟩,⟨12,1,.li (.st 158),fun(x:Zae)=>x.Reload,fun _=>⟨lB rfl,rfl⟩⟩,⟨14,1,.ik .i64,fun(x:Zae)=>x.Restart,fun _=>⟨lB rfl,rfl⟩⟩,⟨15,1,.ik .i64,fun(x:Zae)=>x.Pause,fun _=>⟨lB rfl,rfl⟩⟩,⟨16,1,.ik .i64,fun(x:Zae)=>x.Up,fun _=>⟨lB rfl,rfl⟩⟩,⟨18,1,.li (.ik .i64),fun(x:Zae)=>x.Success,fun _=>⟨lB rfl,rfl⟩⟩,⟨19,1,.li (.st 160),fun(x:Zae)=>x.Env,fun _=>⟨lB rfl,rfl⟩⟩,⟨20,1,.li (.str),fun(x:Zae)=>x.Sockets,fun _=>⟨lB rfl,rfl⟩⟩,⟨21,1,.li (.ik .i64),fun(x:Zae)=>x.Ports,fun _=>⟨lB rfl,rfl⟩⟩,⟨24,1,.str,fun(x:Zae)=>x.Unit_,fun _=>⟨lB rfl,rfl⟩⟩,⟨25,1,.li (.ik .i64),fun(x:Zae)=>x.Boot,fun _=>⟨lB rfl,rfl⟩⟩,⟨26,1,.li (.ik .i64),fun(x:Zae)=>x.Active,fun _=>⟨lB rfl,rfl⟩⟩,⟨27,1,.li (.ik .i64),fun(x:Zae)=>x.Idle,fun _=>⟨lB rfl,rfl⟩⟩,⟨28,1,.li (.str),fun(x:Zae)=>x.Calendar,fun _=>⟨lB rfl,rfl⟩⟩,⟨30,1,.li (.str),fun(x:Zae)=>x.WantedBy,fun _=>⟨lB rfl,rfl⟩⟩,⟨31,1,.li (.str),fun(x:Zae)=>x.RequiredBy,fun _=>⟨lB rfl,rfl⟩⟩,⟨32,1,.li (.str),fun(x:Zae)=>x.Alias,fun _=>⟨lB rfl,rfl⟩⟩,⟨33,1,.li (.str),fun(x:Zae)=>x.Also,fun _=>⟨lB rfl,rfl⟩⟩]⟩,
 ⟨82,[⟨0,1,.ik .i64,fun(x:Zah)=>x.At,fun _=>⟨lB rfl,rfl⟩⟩,⟨1,1,.ik .i64,fun(x:Zah)=>x.Port,fun _=>⟨lB rfl,rfl⟩⟩,⟨2,1,.ik .i64,fun(x:Zah)=>x.Takes,fun _=>⟨lB rfl,rfl⟩⟩]⟩,
 ⟨43,[⟨0,1,.li (.st 89),fun(x:Zaf)=>x.Acts,fun _=>⟨lB rfl,rfl⟩⟩,⟨1,1,.li (.st 82),fun(x:Zaf)=>x.Calls,fun _=>⟨lB rfl,rfl⟩⟩,⟨2,1,.li (.st 92),fun(x:Zaf)=>x.Asks,fun _=>⟨lB rfl,rfl⟩⟩]⟩,
 ⟨100,[⟨0,1,.str,fun(x:Zas)=>x.c.U.Name,fun _=>⟨lB rfl,rfl⟩⟩,⟨0,62,.st 33,fun(x:Zas)=>x.c,fun _=>⟨lB rfl,rfl⟩⟩,⟨57,1,.ik .i64,fun(x:Zas)=>x.c.Seen,fun _=>⟨lB rfl,rfl⟩⟩,⟨61,1,.ik .i64,fun(x:Zas)=>x.c.Rows,fun _=>⟨lB rfl,rfl⟩⟩,⟨62,1,.ik .i64,fun(x:Zas)=>x.now,fun _=>⟨lB rfl,rfl⟩⟩,⟨63,1,.li (.st 62),fun(x:Zas)=>x.out.Rows,fun _=>⟨lB rfl,rfl⟩⟩,⟨63,5,.st 47,fun(x:Zas)=>x.out,fun _=>⟨lB rfl,rfl⟩⟩]⟩,
 ⟨105,[⟨0,1,.str,fun(x:Zao)=>x.Socket,fun _=>⟨lB rfl,rfl⟩⟩,⟨1,1,.ik .i64,fun(x:Zao)=>x.Num,fun _=>⟨lB rfl,rfl⟩⟩,⟨4,1,.ik .i64,fun(x:Zao)=>x.Until,fun _=>⟨lB rfl,rfl⟩⟩]⟩,
 ⟨30,[⟨0,1,.ik .i64,fun(x:Zal)=>x.Part,fun _=>⟨lB rfl,rfl⟩⟩,⟨1,1,.ik .i64,fun(x:Zal)=>x.Num,fun _=>⟨lB rfl,rfl⟩⟩,⟨2,1,.ik .i64,fun(x:Zal)=>x.Begun,fun _=>⟨lB rfl,rfl⟩⟩,⟨3,1,.ik .i64,fun(x:Zal)=>x.Told,fun _=>⟨lB rfl,rfl⟩⟩,⟨4,1,.ik .i64,fun(x:Zal)=>x.Said,fun _=>⟨lB rfl,rfl⟩⟩,⟨5,1,.bool,fun(x:Zal)=>x.Ready,fun _=>⟨lB rfl,rfl⟩⟩]⟩,
 ⟨89,[⟨0,1,.str,fun(x:Zam)=>x.Unit_,fun _=>⟨lB rfl,rfl⟩⟩,⟨1,1,.ik .i64,fun(x:Zam)=>x.Part,fun _=>⟨lB rfl,rfl⟩⟩,⟨2,1,.ik .i64,fun(x:Zam)=>x.Num,fun _=>⟨lB rfl,rfl⟩⟩,⟨3,1,.ik .i64,fun(x:Zam)=>x.Attempt,fun _=>⟨lB rfl,rfl⟩⟩,⟨4,1,.ik .i64,fun(x:Zam)=>x.Lasts,fun _=>⟨lB rfl,rfl⟩⟩,⟨5,1,.ik .i64,fun(x:Zam)=>x.Code,fun _=>⟨lB rfl,rfl⟩⟩,⟨6,1,.ik .i64,fun(x:Zam)=>x.Ready,fun _=>⟨lB rfl,rfl⟩⟩,⟨7,1,.ik .i64,fun(x:Zam)=>x.Dies,fun _=>⟨lB rfl,rfl⟩⟩,⟨8,1,.li (.st 134),fun(x:Zam)=>x.Says,fun _=>⟨lB rfl,rfl⟩⟩]⟩,
 ⟨134,[⟨0,1,.ik .i64,fun(x:Zca)=>x.After,fun _=>⟨lB rfl,rfl⟩⟩,⟨1,1,.str,fun(x:Zca)=>x.Text,fun _=>⟨lB rfl,rfl⟩⟩]⟩,
 ⟨131,[⟨0,1,.ik .i64,fun(x:Zai)=>x.Kind,fun _=>⟨lB rfl,rfl⟩⟩,⟨2,1,.str,fun(x:Zai)=>x.Instance,fun _=>⟨lB rfl,rfl⟩⟩]⟩,
 ⟨92,[⟨0,1,.ik .i64,fun(x:Zbu)=>x.At,fun _=>⟨lB rfl,rfl⟩⟩,⟨1,1,.str,fun(x:Zbu)=>x.Unit_,fun _=>⟨lB rfl,rfl⟩⟩,⟨2,1,.ik .i64,fun(x:Zbu)=>x.Type_,fun _=>⟨lB rfl,rfl⟩⟩]⟩,
 ⟨96,[⟨0,3,.st 43,fun(x:Zaa)=>x.w,fun _=>⟨lB rfl,rfl⟩⟩,⟨3,1,.str,fun(x:Zaa)=>x.c.U.Name,fun _=>⟨lB rfl,rfl⟩⟩,⟨3,35,.st 28,fun(x:Zaa)=>x.c.U,fun _=>⟨lB rfl,rfl⟩⟩,⟨3,62,.st 33,fun(x:Zaa)=>x.c,fun _=>⟨lB rfl,rfl⟩⟩,⟨10,1,.ik .i64,fun(x:Zaa)=>x.c.U.Type_,fun _=>⟨lB rfl,rfl⟩⟩,⟨11,1,.li (.st 158),fun(x:Zaa)=>x.c.U.Pre,fun _=>⟨lB rfl,rfl⟩⟩,⟨12,1,.li (.st 158),fun(x:Zaa)=>x.c.U.Start,fun _=>⟨lB rfl,rfl⟩⟩,⟨13,1,.li (.st 158),fun(x:Zaa)=>x.c.U.Post,fun _=>⟨lB rfl,rfl⟩⟩,⟨14,1,.li (.st 158),fun(x:Zaa)=>x.c.U.Stop,fun _=>⟨lB rfl,rfl⟩⟩,⟨15,1,.li (.st 158),fun(x:Zaa)=>x.c.U.Reload,fun _=>⟨lB rfl,rfl⟩⟩,⟨16,1,.bool,fun(x:Zaa)=>x.c.U.Remain,fun _=>⟨lB rfl,rfl⟩⟩,⟨19,1,.ik .i64,fun(x:Zaa)=>x.c.U.Up,fun _=>⟨lB rfl,rfl⟩⟩,⟨20,1,.ik .i64,fun(x:Zaa)=>x.c.U.Down,fun _=>⟨lB rfl,rfl⟩⟩,⟨21,1,.li (.ik .i64),fun(x:Zaa)=>x.c.U.Success,fun _=>⟨lB rfl,rfl⟩⟩,⟨38,1,.ik .i64,fun(x:Zaa)=>x.c.State,fun _=>⟨lB rfl,rfl⟩⟩,⟨40,1,.ik .i64,fun(x:Zaa)=>x.c.Attempt,fun _=>⟨lB rfl,rfl⟩⟩,⟨41,1,.li (.ik .i64),fun(x:Zaa)=>x.c.Begins,fun _=>⟨lB rfl,rfl⟩⟩,⟨42,1,.ik .i64,fun(x:Zaa)=>x.c.Result,fun _=>⟨lB rfl,rfl⟩⟩,⟨43,1,.ik .i64,fun(x:Zaa)=>x.c.Main.Part,fun _=>⟨lB rfl,rfl⟩⟩,⟨43,6,.st 30,fun(x:Zaa)=>x.c.Main,fun _=>⟨lB rfl,rfl⟩⟩,⟨44,1,.ik .i64,fun(x:Zaa)=>x.c.Main.Num,fun _=>⟨lB rfl,rfl⟩⟩,⟨49,6,.st 30,fun(x:Zaa)=>x.c.Aux,fun _=>⟨lB rfl,rfl⟩⟩,⟨50,1,.ik .i64,fun(x:Zaa)=>x.c.Aux.Num,fun _=>⟨lB rfl,rfl⟩⟩,⟨56,1,.bool,fun(x:Zaa)=>x.c.Wish,fun _=>⟨lB rfl,rfl⟩⟩,⟨58,1,.li (.st 105),fun(x:Zaa)=>x.c.Serves,fun _=>⟨lB rfl,rfl⟩⟩,⟨64,1,.ik .i64,fun(x:Zaa)=>x.c.Rows,fun _=>⟨lB rfl,rfl⟩⟩,⟨65,1,.ik .i64,fun(x:Zaa)=>x.now,fun _=>⟨lB rfl,rfl⟩⟩,⟨66,1,.li (.st 62),fun(x:Zaa)=>x.out.Rows,fun _=>⟨lB rfl,rfl⟩⟩,⟨66,5,.st 47,fun(x:Zaa)=>x.out,fun _=>⟨lB rfl,rfl⟩⟩,⟨67,1,.li (.st 92),fun(x:Zaa)=>x.out.Asks,fun _=>⟨lB rfl,rfl⟩⟩,⟨68,1,.li (.st 105),fun(x:Zaa)=>x.out.Back,fun _=>⟨lB rfl,rfl⟩⟩,⟨70,1,.bool,fun(x:Zaa)=>x.out.Failed,fun _=>⟨lB rfl,rfl⟩⟩]⟩]
def ss:List (Sigma fun m=>List (SetE U m)):=[⟨158,[⟨1,.li (.str),fun(x:Zad) (y:List ByteArray)=>{ x with Words:=y },fun _ _=>⟨lB rfl,rfl⟩⟩]⟩,
 ⟨33,[⟨0,.st 28,fun(x:Zac) (y:Zae)=>{ x with U:=y },fun _ _=>⟨lB rfl,rfl⟩⟩,⟨0,.st 33,fun(x:Zac) (y:Zac)=>y,fun _ _=>⟨lB rfl,rfl⟩⟩,⟨4,.li (.st 162),fun(x:Zac) (y:List Zau)=>{ x with U:={ x.U with Rels:=y } },fun _ _=>⟨lB rfl,rfl⟩⟩,⟨8,.li (.st 158),fun(x:Zac) (y:List Zad)=>{ x with U:={ x.U with Pre:=y } },fun _ _=>⟨lB rfl,rfl⟩⟩,⟨9,.li (.st 158),fun(x:Zac) (y:List Zad)=>{ x with U:={ x.U with Start:=y } },fun _ _=>⟨lB rfl,rfl⟩⟩,⟨10,.li (.st 158),fun(x:Zac) (y:List Zad)=>{ x with U:={ x.U with Post:=y } },fun _ _=>⟨lB rfl,rfl⟩⟩,⟨11,.li (.st 158),fun(x:Zac) (y:List Zad)=>{ x with U:={ x.U with Stop:=y } },fun _ _=>⟨lB rfl,rfl⟩⟩,⟨12,.li (.st 158),fun(x:Zac) (y:List Zad)=>{ x with U:={ x.U with Reload:=y } },fun _ _=>⟨lB rfl,rfl⟩⟩,⟨18,.li (.ik .i64),fun(x:Zac) (y:List Int)=>{ x with U:={ x.U with Success:=y } },fun _ _=>⟨lB rfl,rfl⟩⟩,⟨19,.li (.st 160),fun(x:Zac) (y:List Zav)=>{ x with U:={ x.U with Env:=y } },fun _ _=>⟨lB rfl,rfl⟩⟩,⟨20,.li (.str),fun(x:Zac) (y:List ByteArray)=>{ x with U:={ x.U with Sockets:=y } },fun _ _=>⟨lB rfl,rfl⟩⟩,⟨21,.li (.ik .i64),fun(x:Zac) (y:List Int)=>{ x with U:={ x.U with Ports:=y } },fun _ _=>⟨lB rfl,rfl⟩⟩,⟨25,.li (.ik .i64),fun(x:Zac) (y:List Int)=>{ x with U:={ x.U with Boot:=y } },fun _ _=>⟨lB rfl,rfl⟩⟩,⟨26,.li (.ik .i64),fun(x:Zac) (y:List Int)=>{ x with U:={ x.U with Active:=y } },fun _ _=>⟨lB rfl,rfl⟩⟩,⟨27,.li (.ik .i64),fun(x:Zac) (y:List Int)=>{ x with U:={ x.U with Idle:=y } },fun _ _=>⟨lB rfl,rfl⟩⟩,⟨28,.li (.str),fun(x:Zac) (y:List ByteArray)=>{ x with U:={ x.U with Calendar:=y } },fun _ _=>⟨lB rfl,rfl⟩⟩,⟨30,.li (.str),fun(x:Zac) (y:List ByteArray)=>{ x with U:={ x.U with WantedBy:=y } },fun _ _=>⟨lB rfl,rfl⟩⟩,⟨31,.li (.str),fun(x:Zac) (y:List ByteArray)=>{ x with U:={ x.U with RequiredBy:=y } },fun _ _=>⟨lB rfl,rfl⟩⟩,⟨32,.li (.str),fun(x:Zac) (y:List ByteArray)=>{ x with U:={ x.U with Alias:=y } },fun _ _=>⟨lB rfl,rfl⟩⟩,⟨33,.li (.str),fun(x:Zac) (y:List ByteArray)=>{ x with U:={ x.U with Also:=y } },fun _ _=>⟨lB rfl,rfl⟩⟩,⟨35,.ik .i64,fun(x:Zac) (y:Int)=>{ x with State:=y },fun _ _=>⟨lB rfl,rfl⟩⟩,⟨36,.ik .i64,fun(x:Zac) (y:Int)=>{ x with Since:=y },fun _ _=>⟨lB rfl,rfl⟩⟩,⟨37,.ik .i64,fun(x:Zac) (y:Int)=>{ x with Attempt:=y },fun _ _=>⟨lB rfl,rfl⟩⟩,⟨38,.li (.ik .i64),fun(x:Zac) (y:List Int)=>{ x with Begins:=y },fun _ _=>⟨lB rfl,rfl⟩⟩,⟨55,.li (.st 105),fun(x:Zac) (y:List Zao)=>{ x with Serves:=y },fun _ _=>⟨lB rfl,rfl⟩⟩,⟨56,.li (.st 105),fun(x:Zac) (y:List Zao)=>{ x with Waits:=y },fun _ _=>⟨lB rfl,rfl⟩⟩,⟨57,.ik .i64,fun(x:Zac) (y:Int)=>{ x with Seen:=y },fun _ _=>⟨lB rfl,rfl⟩⟩,⟨58,.ik .i64,fun(x:Zac) (y:Int)=>{ x with Num:=y },fun _ _=>⟨lB rfl,rfl⟩⟩,⟨59,.ik .i64,fun(x:Zac) (y:Int)=>{ x with Last:=y },fun _ _=>⟨lB rfl,rfl⟩⟩,⟨60,.ik .i64,fun(x:Zac) (y:Int)=>{ x with Next:=y },fun _ _=>⟨lB rfl,rfl⟩⟩,⟨61,.ik .i64,fun(x:Zac) (y:Int)=>{ x with Rows:=y },fun _ _=>⟨lB rfl,rfl⟩⟩]⟩,
 ⟨28,[⟨4,.li (.st 162),fun(x:Zae) (y:List Zau)=>{ x with Rels:=y },fun _ _=>⟨lB rfl,rfl⟩⟩,⟨8,.li (.st 158),fun(x:Zae) (y:List Zad)=>{ x with Pre:=y },fun _ _=>⟨lB rfl,rfl⟩⟩,⟨9,.li (.st 158),fun(x:Zae) (y:List Zad)=>{ x with Start:=y },fun _ _=>⟨lB rfl,rfl⟩⟩,⟨10,.li (.st 158),fun(x:Zae) (y:List Zad)=>{ x with Post:=y },fun _ _=>⟨lB rfl,rfl⟩⟩,⟨11,.li (.st 158),fun(x:Zae) (y:List Zad)=>{ x with Stop:=y },fun _ _=>⟨lB rfl,rfl⟩⟩,⟨12,.li (.st 158),fun(x:Zae) (y:List Zad)=>{ x with Reload:=y },fun _ _=>⟨lB rfl,rfl⟩⟩,⟨18,.li (.ik .i64),fun(x:Zae) (y:List Int)=>{ x with Success:=y },fun _ _=>⟨lB rfl,rfl⟩⟩,⟨19,.li (.st 160),fun(x:Zae) (y:List Zav)=>{ x with Env:=y },fun _ _=>⟨lB rfl,rfl⟩⟩,⟨20,.li (.str),fun(x:Zae) (y:List ByteArray)=>{ x with Sockets:=y },fun _ _=>⟨lB rfl,rfl⟩⟩,⟨21,.li (.ik .i64),fun(x:Zae) (y:List Int)=>{ x with Ports:=y },fun _ _=>⟨lB rfl,rfl⟩⟩,⟨25,.li (.ik .i64),fun(x:Zae) (y:List Int)=>{ x with Boot:=y },fun _ _=>⟨lB rfl,rfl⟩⟩,⟨26,.li (.ik .i64),fun(x:Zae) (y:List Int)=>{ x with Active:=y },fun _ _=>⟨lB rfl,rfl⟩⟩,⟨27,.li (.ik .i64),fun(x:Zae) (y:List Int)=>{ x with Idle:=y },fun _ _=>⟨lB rfl,rfl⟩⟩,⟨28,.li (.str),fun(x:Zae) (y:List ByteArray)=>{ x with Calendar:=y },fun _ _=>⟨lB rfl,rfl⟩⟩,⟨30,.li (.str),fun(x:Zae) (y:List ByteArray)=>{ x with WantedBy:=y },fun _ _=>⟨lB rfl,rfl⟩⟩,⟨31,.li (.str),fun(x:Zae) (y:List ByteArray)=>{ x with RequiredBy:=y },fun _ _=>⟨lB rfl,rfl⟩⟩,⟨32,.li (.str),fun(x:Zae) (y:List ByteArray)=>{ x with Alias:=y },fun _ _=>⟨lB rfl,rfl⟩⟩,⟨33,.li (.str),fun(x:Zae) (y:List ByteArray)=>{ x with Also:=y },fun _ _=>⟨lB rfl,rfl⟩⟩]⟩,
 ⟨62,[⟨0,.ik .i64,fun(x:Zaq) (y:Int)=>{ x with Time:=y },fun _ _=>⟨lB rfl,rfl⟩⟩,⟨1,.str,fun(x:Zaq) (y:ByteArray)=>{ x with Unit_:=y },fun _ _=>⟨lB rfl,rfl⟩⟩,⟨2,.ik .i64,fun(x:Zaq) (y:Int)=>{ x with N:=y },fun _ _=>⟨lB rfl,rfl⟩⟩,⟨3,.ik .i64,fun(x:Zaq) (y:Int)=>{ x with Kind:=y },fun _ _=>⟨lB rfl,rfl⟩⟩,⟨4,.str,fun(x:Zaq) (y:ByteArray)=>{ x with Text:=y },fun _ _=>⟨lB rfl,rfl⟩⟩]⟩,
 ⟨47,[⟨0,.li (.st 62),fun(x:Zab) (y:List Zaq)=>{ x with Rows:=y },fun _ _=>⟨lB rfl,rfl⟩⟩,⟨1,.li (.st 92),fun(x:Zab) (y:List Zbu)=>{ x with Asks:=y },fun _ _=>⟨lB rfl,rfl⟩⟩]⟩,
 ⟨92,[⟨1,.str,fun(x:Zbu) (y:ByteArray)=>{ x with Unit_:=y },fun _ _=>⟨lB rfl,rfl⟩⟩,⟨2,.ik .i64,fun(x:Zbu) (y:Int)=>{ x with Type_:=y },fun _ _=>⟨lB rfl,rfl⟩⟩]⟩,
 ⟨105,[⟨0,.str,fun(x:Zao) (y:ByteArray)=>{ x with Socket:=y },fun _ _=>⟨lB rfl,rfl⟩⟩,⟨1,.ik .i64,fun(x:Zao) (y:Int)=>{ x with Num:=y },fun _ _=>⟨lB rfl,rfl⟩⟩,⟨3,.ik .i64,fun(x:Zao) (y:Int)=>{ x with Takes:=y },fun _ _=>⟨lB rfl,rfl⟩⟩,⟨4,.ik .i64,fun(x:Zao) (y:Int)=>{ x with Until:=y },fun _ _=>⟨lB rfl,rfl⟩⟩]⟩,
 ⟨100,[⟨0,.st 28,fun(x:Zas) (y:Zae)=>{ x with c:={ x.c with U:=y } },fun _ _=>⟨lB rfl,rfl⟩⟩,⟨0,.st 33,fun(x:Zas) (y:Zac)=>{ x with c:=y },fun _ _=>⟨lB rfl,rfl⟩⟩,⟨37,.ik .i64,fun(x:Zas) (y:Int)=>{ x with c:={ x.c with Attempt:=y } },fun _ _=>⟨lB rfl,rfl⟩⟩,⟨57,.ik .i64,fun(x:Zas) (y:Int)=>{ x with c:={ x.c with Seen:=y } },fun _ _=>⟨lB rfl,rfl⟩⟩,⟨61,.ik .i64,fun(x:Zas) (y:Int)=>{ x with c:={ x.c with Rows:=y } },fun _ _=>⟨lB rfl,rfl⟩⟩,⟨62,.ik .i64,fun(x:Zas) (y:Int)=>{ x with now:=y },fun _ _=>⟨lB rfl,rfl⟩⟩,⟨63,.li (.st 62),fun(x:Zas) (y:List Zaq)=>{ x with out:={ x.out with Rows:=y } },fun _ _=>⟨lB rfl,rfl⟩⟩]⟩,
 ⟨30,[⟨0,.ik .i64,fun(x:Zal) (y:Int)=>{ x with Part:=y },fun _ _=>⟨lB rfl,rfl⟩⟩,⟨1,.ik .i64,fun(x:Zal) (y:Int)=>{ x with Num:=y },fun _ _=>⟨lB rfl,rfl⟩⟩,⟨2,.ik .i64,fun(x:Zal) (y:Int)=>{ x with Begun:=y },fun _ _=>⟨lB rfl,rfl⟩⟩,⟨3,.ik .i64,fun(x:Zal) (y:Int)=>{ x with Told:=y },fun _ _=>⟨lB rfl,rfl⟩⟩,⟨4,.ik .i64,fun(x:Zal) (y:Int)=>{ x with Said:=y },fun _ _=>⟨lB rfl,rfl⟩⟩,⟨5,.bool,fun(x:Zal) (y:Bool)=>{ x with Ready:=y },fun _ _=>⟨lB rfl,rfl⟩⟩]⟩,
 ⟨89,[⟨0,.str,fun(x:Zam) (y:ByteArray)=>{ x with Unit_:=y },fun _ _=>⟨lB rfl,rfl⟩⟩,⟨1,.ik .i64,fun(x:Zam) (y:Int)=>{ x with Part:=y },fun _ _=>⟨lB rfl,rfl⟩⟩,⟨2,.ik .i64,fun(x:Zam) (y:Int)=>{ x with Num:=y },fun _ _=>⟨lB rfl,rfl⟩⟩,⟨3,.ik .i64,fun(x:Zam) (y:Int)=>{ x with Attempt:=y },fun _ _=>⟨lB rfl,rfl⟩⟩,⟨4,.ik .i64,fun(x:Zam) (y:Int)=>{ x with Lasts:=y },fun _ _=>⟨lB rfl,rfl⟩⟩,⟨8,.li (.st 134),fun(x:Zam) (y:List Zca)=>{ x with Says:=y },fun _ _=>⟨lB rfl,rfl⟩⟩]⟩,
 ⟨131,[⟨0,.ik .i64,fun(x:Zai) (y:Int)=>{ x with Kind:=y },fun _ _=>⟨lB rfl,rfl⟩⟩,⟨1,.str,fun(x:Zai) (y:ByteArray)=>{ x with Prefix:=y },fun _ _=>⟨lB rfl,rfl⟩⟩,⟨2,.str,fun(x:Zai) (y:ByteArray)=>{ x with Instance:=y },fun _ _=>⟨lB rfl,rfl⟩⟩,⟨3,.bool,fun(x:Zai) (y:Bool)=>{ x with At:=y },fun _ _=>⟨lB rfl,rfl⟩⟩]⟩,
 ⟨96,[⟨0,.st 43,fun(x:Zaa) (y:Zaf)=>{ x with w:=y },fun _ _=>⟨lB rfl,rfl⟩⟩,⟨3,.st 28,fun(x:Zaa) (y:Zae)=>{ x with c:={ x.c with U:=y } },fun _ _=>⟨lB rfl,rfl⟩⟩,⟨3,.st 33,fun(x:Zaa) (y:Zac)=>{ x with c:=y },fun _ _=>⟨lB rfl,rfl⟩⟩,⟨38,.ik .i64,fun(x:Zaa) (y:Int)=>{ x with c:={ x.c with State:=y } },fun _ _=>⟨lB rfl,rfl⟩⟩,⟨39,.ik .i64,fun(x:Zaa) (y:Int)=>{ x with c:={ x.c with Since:=y } },fun _ _=>⟨lB rfl,rfl⟩⟩,⟨40,.ik .i64,fun(x:Zaa) (y:Int)=>{ x with c:={ x.c with Attempt:=y } },fun _ _=>⟨lB rfl,rfl⟩⟩,⟨41,.li (.ik .i64),fun(x:Zaa) (y:List Int)=>{ x with c:={ x.c with Begins:=y } },fun _ _=>⟨lB rfl,rfl⟩⟩,⟨42,.ik .i64,fun(x:Zaa) (y:Int)=>{ x with c:={ x.c with Result:=y } },fun _ _=>⟨lB rfl,rfl⟩⟩,⟨43,.st 30,fun(x:Zaa) (y:Zal)=>{ x with c:={ x.c with Main:=y } },fun _ _=>⟨lB rfl,rfl⟩⟩,⟨49,.st 30,fun(x:Zaa) (y:Zal)=>{ x with c:={ x.c with Aux:=y } },fun _ _=>⟨lB rfl,rfl⟩⟩,⟨55,.ik .i64,fun(x:Zaa) (y:Int)=>{ x with c:={ x.c with Over:=y } },fun _ _=>⟨lB rfl,rfl⟩⟩,⟨56,.bool,fun(x:Zaa) (y:Bool)=>{ x with c:={ x.c with Wish:=y } },fun _ _=>⟨lB rfl,rfl⟩⟩,⟨57,.bool,fun(x:Zaa) (y:Bool)=>{ x with c:={ x.c with Bad:=y } },fun _ _=>⟨lB rfl,rfl⟩⟩,⟨58,.li (.st 105),fun(x:Zaa) (y:List Zao)=>{ x with c:={ x.c with Serves:=y } },fun _ _=>⟨lB rfl,rfl⟩⟩,⟨64,.ik .i64,fun(x:Zaa) (y:Int)=>{ x with c:={ x.c with Rows:=y } },fun _ _=>⟨lB rfl,rfl⟩⟩,⟨65,.ik .i64,fun(x:Zaa) (y:Int)=>{ x with now:=y },fun _ _=>⟨lB rfl,rfl⟩⟩,⟨66,.li (.st 62),fun(x:Zaa) (y:List Zaq)=>{ x with out:={ x.out with Rows:=y } },fun _ _=>⟨lB rfl,rfl⟩⟩,⟨67,.li (.st 92),fun(x:Zaa) (y:List Zbu)=>{ x with out:={ x.out with Asks:=y } },fun _ _=>⟨lB rfl,rfl⟩⟩,⟨68,.li (.st 105),fun(x:Zaa) (y:List Zao)=>{ x with out:={ x.out with Back:=y } },fun _ _=>⟨lB rfl,rfl⟩⟩,⟨69,.bool,fun(x:Zaa) (y:Bool)=>{ x with out:={ x.out with Fell:=y } },fun _ _=>⟨lB rfl,rfl⟩⟩,⟨70,.bool,fun(x:Zaa) (y:Bool)=>{ x with out:={ x.out with Failed:=y } },fun _ _=>⟨lB rfl,rfl⟩⟩]⟩]
def es:List (Sigma fun m=>EqE U m):=[]
def tb:Tabs U:=tbOf U gs ss es
def tis:List (Nat×TI):=[(1,⟨1,false,7,[.lit (.nilFunc)],[],none,none,none⟩),
 (3,⟨1,false,0,[.lit (.int .i64 0)],[],none,none,none⟩),
 (4,⟨1,false,1,[.lit (.bool false)],[],none,none,none⟩),
 (5,⟨1,false,0,[.lit (.int .u8 0)],[],none,none,none⟩),
 (9,⟨1,false,2,[.lit (.string ⟨#[]⟩)],[],none,none,none⟩),
 (22,⟨1,false,3,[.sl 0 []],[],(some (162,(2,24))),none,none⟩),
 (23,⟨1,false,3,[.sl 0 []],[],(some (158,(2,32))),none,none⟩),
 (24,⟨1,false,3,[.sl 0 []],[],(some (3,(1,8))),none,none⟩),
 (25,⟨1,false,3,[.sl 0 []],[],(some (160,(2,32))),none,none⟩),
 (26,⟨1,false,3,[.sl 0 []],[],(some (9,(1,16))),none,none⟩),
 (28,⟨35,true,4,[.lit (.string ⟨#[]⟩),.lit (.int .i64 0),.lit (.string ⟨#[]⟩),.lit (.bool false),.sl 0 [],.lit (.int .i64 0),.lit (.int .i64 0),.lit (.int .i64 0),.sl 0 [],.sl 0 [],.sl 0 [],.sl 0 [],.sl 0 [],.lit (.bool false),.lit (.int .i64 0),.lit (.int .i64 0),.lit (.int .i64 0),.lit (.int .i64 0),.sl 0 [],.sl 0 [],.sl 0 [],.sl 0 [],.lit (.int .i64 0),.lit (.string ⟨#[]⟩),.lit (.string ⟨#[]⟩),.sl 0 [],.sl 0 [],.sl 0 [],.sl 0 [],.lit (.bool false),.sl 0 [],.sl 0 [],.sl 0 [],.sl 0 [],.lit (.string ⟨#[]⟩)],[(0,(1,false)),(1,(1,false)),(2,(1,false)),(3,(1,false)),(4,(1,false)),(5,(1,false)),(6,(1,false)),(7,(1,false)),(8,(1,false)),(9,(1,false)),(10,(1,false)),(11,(1,false)),(12,(1,false)),(13,(1,false)),(14,(1,false)),(15,(1,false)),(16,(1,false)),(17,(1,false)),(18,(1,false)),(19,(1,false)),(20,(1,false)),(21,(1,false)),(22,(1,false)),(23,(1,false)),(24,(1,false)),(25,(1,false)),(26,(1,false)),(27,(1,false)),(28,(1,false)),(29,(1,false)),(30,(1,false)),(31,(1,false)),(32,(1,false)),(33,(1,false)),(34,(1,false))],none,none,none⟩),
 (30,⟨6,true,4,[.lit (.int .i64 0),.lit (.int .i64 0),.lit (.int .i64 0),.lit (.int .i64 0),.lit (.int .i64 0),.lit (.bool false)],[(0,(1,false)),(1,(1,false)),(2,(1,false)),(3,(1,false)),(4,(1,false)),(5,(1,false))],none,none,(some [0,0,0,0,0,1])⟩),
 (31,⟨1,false,3,[.sl 0 []],[],(some (105,(5,48))),none,none⟩),
 (33,⟨62,true,4,[.lit (.string ⟨#[]⟩),.lit (.int .i64 0),.lit (.string ⟨#[]⟩),.lit (.bool false),.sl 0 [],.lit (.int .i64 0),.lit (.int .i64 0),.lit (.int .i64 0),.sl 0 [],.sl 0 [],.sl 0 [],.sl 0 [],.sl 0 [],.lit (.bool false),.lit (.int .i64 0),.lit (.int .i64 0),.lit (.int .i64 0),.lit (.int .i64 0),.sl 0 [],.sl 0 [],.sl 0 [],.sl 0 [],.lit (.int .i64 0),.lit (.string ⟨#[]⟩),.lit (.string ⟨#[]⟩),.sl 0 [],.sl 0 [],.sl 0 [],.sl 0 [],.lit (.bool false),.sl 0 [],.sl 0 [],.sl 0 [],.sl 0 [],.lit (.string ⟨#[]⟩),.lit (.int .i64 0),.lit (.int .i64 0),.lit (.int .i64 0),.sl 0 [],.lit (.int .i64 0),.lit (.int .i64 0),.lit (.int .i64 0),.lit (.int .i64 0),.lit (.int .i64 0),.lit (.int .i64 0),.lit (.bool false),.lit (.int .i64 0),.lit (.int .i64 0),.lit (.int .i64 0),.lit (.int .i64 0),.lit (.int .i64 0),.lit (.bool false),.lit (.int .i64 0),.lit (.bool false),.lit (.bool false),.sl 0 [],.sl 0 [],.lit (.int .i64 0),.lit (.int .i64 0),.lit (.int .i64 0),.lit (.int .i64 0),.lit (.int .i64 0)],[(0,(35,true)),(35,(1,false)),(36,(1,false)),(37,(1,false)),(38,(1,false)),(39,(1,false)),(40,(6,true)),(46,(6,true)),(52,(1,false)),(53,(1,false)),(54,(1,false)),(55,(1,false)),(56,(1,false)),(57,(1,false)),(58,(1,false)),(59,(1,false)),(60,(1,false)),(61,(1,false))],none,none,none⟩),
 (39,⟨1,false,3,[.sl 0 []],[],(some (89,(9,96))),none,none⟩),
 (40,⟨1,false,3,[.sl 0 []],[],(some (82,(3,24))),none,none⟩),
 (41,⟨1,false,3,[.sl 0 []],[],(some (92,(3,32))),none,none⟩),
 (43,⟨3,true,4,[.sl 0 [],.sl 0 [],.sl 0 []],[(0,(1,false)),(1,(1,false)),(2,(1,false))],none,none,none⟩),
 (45,⟨1,false,3,[.sl 0 []],[],(some (62,(5,56))),none,none⟩),
 (47,⟨5,true,4,[.sl 0 [],.sl 0 [],.sl 0 [],.lit (.bool false),.lit (.bool false)],[(0,(1,false)),(1,(1,false)),(2,(1,false)),(3,(1,false)),(4,(1,false))],none,none,none⟩),
 (62,⟨5,true,4,[.lit (.int .i64 0),.lit (.string ⟨#[]⟩),.lit (.int .i64 0),.lit (.int .i64 0),.lit (.string ⟨#[]⟩)],[(0,(1,false)),(1,(1,false)),(2,(1,false)),(3,(1,false)),(4,(1,false))],none,none,(some [0,2,0,0,2])⟩),
 (82,⟨3,true,4,[.lit (.int .i64 0),.lit (.int .i64 0),.lit (.int .i64 0)],[(0,(1,false)),(1,(1,false)),(2,(1,false))],none,none,(some [0,0,0])⟩),
 (87,⟨1,false,3,[.sl 0 []],[],(some (134,(2,24))),none,none⟩),
 (89,⟨9,true,4,[.lit (.string ⟨#[]⟩),.lit (.int .i64 0),.lit (.int .i64 0),.lit (.int .i64 0),.lit (.int .i64 0),.lit (.int .i64 0),.lit (.int .i64 0),.lit (.int .i64 0),.sl 0 []],[(0,(1,false)),(1,(1,false)),(2,(1,false)),(3,(1,false)),(4,(1,false)),(5,(1,false)),(6,(1,false)),(7,(1,false)),(8,(1,false))],none,none,none⟩),
 (92,⟨3,true,4,[.lit (.int .i64 0),.lit (.string ⟨#[]⟩),.lit (.int .i64 0)],[(0,(1,false)),(1,(1,false)),(2,(1,false))],none,none,(some [0,2,0])⟩),
 (96,⟨71,true,4,[.sl 0 [],.sl 0 [],.sl 0 [],.lit (.string ⟨#[]⟩),.lit (.int .i64 0),.lit (.string ⟨#[]⟩),.lit (.bool false),.sl 0 [],.lit (.int .i64 0),.lit (.int .i64 0),.lit (.int .i64 0),.sl 0 [],.sl 0 [],.sl 0 [],.sl 0 [],.sl 0 [],.lit (.bool false),.lit (.int .i64 0),.lit (.int .i64 0),.lit (.int .i64 0),.lit (.int .i64 0),.sl 0 [],.sl 0 [],.sl 0 [],.sl 0 [],.lit (.int .i64 0),.lit (.string ⟨#[]⟩),.lit (.string ⟨#[]⟩),.sl 0 [],.sl 0 [],.sl 0 [],.sl 0 [],.lit (.bool false),.sl 0 [],.sl 0 [],.sl 0 [],.sl 0 [],.lit (.string ⟨#[]⟩),.lit (.int .i64 0),.lit (.int .i64 0),.lit (.int .i64 0),.sl 0 [],.lit (.int .i64 0),.lit (.int .i64 0),.lit (.int .i64 0),.lit (.int .i64 0),.lit (.int .i64 0),.lit (.int .i64 0),.lit (.bool false),.lit (.int .i64 0),.lit (.int .i64 0),.lit (.int .i64 0),.lit (.int .i64 0),.lit (.int .i64 0),.lit (.bool false),.lit (.int .i64 0),.lit (.bool false),.lit (.bool false),.sl 0 [],.sl 0 [],.lit (.int .i64 0),.lit (.int .i64 0),.lit (.int .i64 0),.lit (.int .i64 0),.lit (.int .i64 0),.lit (.int .i64 0),.sl 0 [],.sl 0 [],.sl 0 [],.lit (.bool false),.lit (.bool false)],[(0,(3,true)),(3,(62,true)),(65,(1,false)),(66,(5,true))],none,none,none⟩),
 (100,⟨68,true,4,[.lit (.string ⟨#[]⟩),.lit (.int .i64 0),.lit (.string ⟨#[]⟩),.lit (.bool false),.sl 0 [],.lit (.int .i64 0),.lit (.int .i64 0),.lit (.int .i64 0),.sl 0 [],.sl 0 [],.sl 0 [],.sl 0 [],.sl 0 [],.lit (.bool false),.lit (.int .i64 0),.lit (.int .i64 0),.lit (.int .i64 0),.lit (.int .i64 0),.sl 0 [],.sl 0 [],.sl 0 [],.sl 0 [],.lit (.int .i64 0),.lit (.string ⟨#[]⟩),.lit (.string ⟨#[]⟩),.sl 0 [],.sl 0 [],.sl 0 [],.sl 0 [],.lit (.bool false),.sl 0 [],.sl 0 [],.sl 0 [],.sl 0 [],.lit (.string ⟨#[]⟩),.lit (.int .i64 0),.lit (.int .i64 0),.lit (.int .i64 0),.sl 0 [],.lit (.int .i64 0),.lit (.int .i64 0),.lit (.int .i64 0),.lit (.int .i64 0),.lit (.int .i64 0),.lit (.int .i64 0),.lit (.bool false),.lit (.int .i64 0),.lit (.int .i64 0),.lit (.int .i64 0),.lit (.int .i64 0),.lit (.int .i64 0),.lit (.bool false),.lit (.int .i64 0),.lit (.bool false),.lit (.bool false),.sl 0 [],.sl 0 [],.lit (.int .i64 0),.lit (.int .i64 0),.lit (.int .i64 0),.lit (.int .i64 0),.lit (.int .i64 0),.lit (.int .i64 0),.sl 0 [],.sl 0 [],.sl 0 [],.lit (.bool false),.lit (.bool false)],[(0,(62,true)),(62,(1,false)),(63,(5,true))],none,none,none⟩),
 (105,⟨5,true,4,[.lit (.string ⟨#[]⟩),.lit (.int .i64 0),.lit (.int .i64 0),.lit (.int .i64 0),.lit (.int .i64 0)],[(0,(1,false)),(1,(1,false)),(2,(1,false)),(3,(1,false)),(4,(1,false))],none,none,(some [2,0,0,0,0])⟩),
 (111,⟨0,true,4,[],[],none,none,(some [])⟩),
 (122,⟨2,true,4,[.lit (.int .i64 0),.lit (.nilFunc)],[(0,(1,false)),(1,(1,false))],none,none,none⟩),
 (131,⟨4,true,4,[.lit (.int .i64 0),.lit (.string ⟨#[]⟩),.lit (.string ⟨#[]⟩),.lit (.bool false)],[(0,(1,false)),(1,(1,false)),(2,(1,false)),(3,(1,false))],none,none,(some [0,2,2,1])⟩),
 (134,⟨2,true,4,[.lit (.int .i64 0),.lit (.string ⟨#[]⟩)],[(0,(1,false)),(1,(1,false))],none,none,(some [0,2])⟩),
 (144,⟨1,false,6,[.lit (.nilIface)],[],none,none,none⟩),
 (146,⟨1,false,5,[.lit (.pointer none)],[],none,none,none⟩),
 (148,⟨1,false,5,[.lit (.pointer none)],[],none,none,none⟩),
 (158,⟨2,true,4,[.lit (.bool false),.sl 0 []],[(0,(1,false)),(1,(1,false))],none,none,none⟩),
 (160,⟨2,true,4,[.lit (.string ⟨#[]⟩),.lit (.string ⟨#[]⟩)],[(0,(1,false)),(1,(1,false))],none,none,(some [2,2])⟩),
 (162,⟨2,true,4,[.lit (.int .i64 0),.lit (.string ⟨#[]⟩)],[(0,(1,false)),(1,(1,false))],none,none,(some [0,2])⟩),
 (165,⟨1,false,3,[.sl 0 []],[],(some (122,(2,16))),none,none⟩),
 (177,⟨1,false,7,[.lit (.nilFunc)],[],none,none,none⟩),
 (186,⟨1,false,5,[.lit (.pointer none)],[],none,none,none⟩),
 (191,⟨1,false,5,[.lit (.pointer none)],[],none,none,none⟩),
 (194,⟨1,false,3,[.sl 0 []],[],(some (146,(1,8))),none,none⟩),
 (195,⟨1,false,3,[.sl 0 []],[],(some (148,(1,8))),none,none⟩),
 (200,⟨3,true,4,[.lit (.bool false),.lit (.int .i64 0),.lit (.nilFunc)],[(0,(1,false)),(1,(1,false)),(2,(1,false))],none,none,none⟩),
 (202,⟨1,false,3,[.sl 0 []],[],(some (200,(3,24))),none,none⟩),
 (211,⟨1,false,3,[.sl 0 []],[],(some (186,(1,8))),none,none⟩),
 (215,⟨1,false,3,[.sl 0 []],[],(some (191,(1,8))),none,none⟩),
 (232,⟨1,false,0,[.lit (.int .u64 0)],[],none,none,none⟩),
 (254,⟨2,true,8,[.lit (.int .i64 0),.lit (.int .i64 0)],[],none,(some (2,(3,1))),none⟩),
 (255,⟨8,true,8,[.lit (.int .i64 0),.lit (.int .i64 0),.lit (.int .i64 0),.lit (.int .i64 0),.lit (.int .i64 0),.lit (.int .i64 0),.lit (.int .i64 0),.lit (.int .i64 0)],[],none,(some (4,(254,2))),none⟩),
 (258,⟨1,false,3,[.sl 0 []],[],(some (177,(1,8))),none,none⟩)]
noncomputable def fis:List (Nat×FI):=[(7,⟨Tryz.f7.ntmps,Tryz.f7.body.getD .skip,Tryz.f7.results.toList,[]⟩),
 (8,⟨Tryz.f8.ntmps,Tryz.f8.body.getD .skip,Tryz.f8.results.toList,[]⟩),
 (9,⟨Tryz.f9.ntmps,Tryz.f9.body.getD .skip,Tryz.f9.results.toList,[]⟩),
 (11,⟨Tryz.f11.ntmps,Tryz.f11.body.getD .skip,Tryz.f11.results.toList,[]⟩),
 (13,⟨Tryz.f13.ntmps,Tryz.f13.body.getD .skip,Tryz.f13.results.toList,[]⟩),
 (15,⟨Tryz.f15.ntmps,Tryz.f15.body.getD .skip,Tryz.f15.results.toList,[]⟩),
 (16,⟨Tryz.f16.ntmps,Tryz.f16.body.getD .skip,Tryz.f16.results.toList,[]⟩),
 (17,⟨Tryz.f17.ntmps,Tryz.f17.body.getD .skip,Tryz.f17.results.toList,[]⟩),
 (19,⟨Tryz.f19.ntmps,Tryz.f19.body.getD .skip,Tryz.f19.results.toList,[]⟩),
 (21,⟨Tryz.f21.ntmps,Tryz.f21.body.getD .skip,Tryz.f21.results.toList,[]⟩),
 (22,⟨Tryz.f22.ntmps,Tryz.f22.body.getD .skip,Tryz.f22.results.toList,[]⟩),
 (26,⟨Tryz.f26.ntmps,Tryz.f26.body.getD .skip,Tryz.f26.results.toList,[]⟩),
 (28,⟨Tryz.f28.ntmps,Tryz.f28.body.getD .skip,Tryz.f28.results.toList,[]⟩),
 (30,⟨Tryz.f30.ntmps,Tryz.f30.body.getD .skip,Tryz.f30.results.toList,[]⟩),
 (31,⟨Tryz.f31.ntmps,Tryz.f31.body.getD .skip,Tryz.f31.results.toList,[(2,[(0,2),(2,0)])]⟩),
 (32,⟨Tryz.f32.ntmps,Tryz.f32.body.getD .skip,Tryz.f32.results.toList,[]⟩),
 (33,⟨Tryz.f33.ntmps,Tryz.f33.body.getD .skip,Tryz.f33.results.toList,[]⟩),
 (34,⟨Tryz.f34.ntmps,Tryz.f34.body.getD .skip,Tryz.f34.results.toList,[]⟩),
 (35,⟨Tryz.f35.ntmps,Tryz.f35.body.getD .skip,Tryz.f35.results.toList,[]⟩),
 (36,⟨Tryz.f36.ntmps,Tryz.f36.body.getD .skip,Tryz.f36.results.toList,[(1,[(0,2),(2,0)]),(9,[(7,8),(8,7)])]⟩),
 (37,⟨Tryz.f37.ntmps,Tryz.f37.body.getD .skip,Tryz.f37.results.toList,[(21,[(7,8),(8,7)])]⟩),
 (38,⟨Tryz.f38.ntmps,Tryz.f38.body.getD .skip,Tryz.f38.results.toList,[(12,[(1,2),(2,1)])]⟩),
 (39,⟨Tryz.f39.ntmps,Tryz.f39.body.getD .skip,Tryz.f39.results.toList,[(12,[(1,2),(2,1)])]⟩),
 (40,⟨Tryz.f40.ntmps,Tryz.f40.body.getD .skip,Tryz.f40.results.toList,[]⟩),
 (51,⟨Tryz.f51.ntmps,Tryz.f51.body.getD .skip,Tryz.f51.results.toList,[(1,[(0,2),(2,0)]),(5,[(7,8),(8,7)])]⟩),
 (52,⟨Tryz.f52.ntmps,Tryz.f52.body.getD .skip,Tryz.f52.results.toList,[(4,[(7,8),(8,7)]),(10,[(7,8),(8,7)]),(11,[(5,20),(20,5)]),(13,[(7,8),(8,7)])]⟩),
 (53,⟨Tryz.f53.ntmps,Tryz.f53.body.getD .skip,Tryz.f53.results.toList,[(8,[(1,2),(2,1)])]⟩),
 (57,⟨Tryz.f57.ntmps,Tryz.f57.body.getD .skip,Tryz.f57.results.toList,[]⟩),
 (58,⟨Tryz.f58.ntmps,Tryz.f58.body.getD .skip,Tryz.f58.results.toList,[]⟩),
 (59,⟨Tryz.f59.ntmps,Tryz.f59.body.getD .skip,Tryz.f59.results.toList,[]⟩),
 (62,⟨Tryz.f62.ntmps,Tryz.f62.body.getD .skip,Tryz.f62.results.toList,[(12,[(11,15),(15,11)])]⟩),
 (63,⟨Tryz.f63.ntmps,Tryz.f63.body.getD .skip,Tryz.f63.results.toList,[]⟩),
 (64,⟨Tryz.f64.ntmps,Tryz.f64.body.getD .skip,Tryz.f64.results.toList,[]⟩),
 (65,⟨Tryz.f65.ntmps,Tryz.f65.body.getD .skip,Tryz.f65.results.toList,[]⟩),
 (66,⟨Tryz.f66.ntmps,Tryz.f66.body.getD .skip,Tryz.f66.results.toList,[]⟩),
 (67,⟨Tryz.f67.ntmps,Tryz.f67.body.getD .skip,Tryz.f67.results.toList,[]⟩),
 (68,⟨Tryz.f68.ntmps,Tryz.f68.body.getD .skip,Tryz.f68.results.toList,[(9,[(5,10),(10,5)])]⟩),
 (69,⟨Tryz.f69.ntmps,Tryz.f69.body.getD .skip,Tryz.f69.results.toList,[]⟩),
 (70,⟨Tryz.f70.ntmps,Tryz.f70.body.getD .skip,Tryz.f70.results.toList,[]⟩),
 (71,⟨Tryz.f71.ntmps,Tryz.f71.body.getD .skip,Tryz.f71.results.toList,[]⟩),
 (72,⟨Tryz.f72.ntmps,Tryz.f72.body.getD .skip,Tryz.f72.results.toList,[]⟩),
 (73,⟨Tryz.f73.ntmps,Tryz.f73.body.getD .skip,Tryz.f73.results.toList,[]⟩),
 (74,⟨Tryz.f74.ntmps,Tryz.f74.body.getD .skip,Tryz.f74.results.toList,[]⟩),
 (75,⟨Tryz.f75.ntmps,Tryz.f75.body.getD .skip,Tryz.f75.results.toList,[]⟩),
 (76,⟨Tryz.f76.ntmps,Tryz.f76.body.getD .skip,Tryz.f76.results.toList,[]⟩),
 (90,⟨Tryz.f90.ntmps,Tryz.f90.body.getD .skip,Tryz.f90.results.toList,[]⟩),
 (91,⟨Tryz.f91.ntmps,Tryz.f91.body.getD .skip,Tryz.f91.results.toList,[]⟩),
 (92,⟨Tryz.f92.ntmps,Tryz.f92.body.getD .skip,Tryz.f92.results.toList,[]⟩),
 (100,⟨Tryz.f100.ntmps,Tryz.f100.body.getD .skip,Tryz.f100.results.toList,[]⟩),
 (101,⟨Tryz.f101.ntmps,Tryz.f101.body.getD .skip,Tryz.f101.results.toList,[]⟩),
 (102,⟨Tryz.f102.ntmps,Tryz.f102.body.getD .skip,Tryz.f102.results.toList,[]⟩),
 (103,⟨Tryz.f103.ntmps,Tryz.f103.body.getD .skip,Tryz.f103.results.toList,[]⟩),
 (104,⟨Tryz.f104.ntmps,Tryz.f104.body.getD .skip,Tryz.f104.results.toList,[]⟩),
 (105,⟨Tryz.f105.ntmps,Tryz.f105.body.getD .skip,Tryz.f105.results.toList,[]⟩),
 (106,⟨Tryz.f106.ntmps,Tryz.f106.body.getD .skip,Tryz.f106.results.toList,[]⟩),
 (107,⟨Tryz.f107.ntmps,Tryz.f107.body.getD .skip,Tryz.f107.results.toList,[(0,[(5,15),(15,5),(5,16),(16,5)])]⟩),
 (108,⟨Tryz.f108.ntmps,Tryz.f108.body.getD .skip,Tryz.f108.results.toList,[]⟩),
 (109,⟨Tryz.f109.ntmps,Tryz.f109.body.getD .skip,Tryz.f109.results.toList,[]⟩),
 (110,⟨Tryz.f110.ntmps,Tryz.f110.body.getD .skip,Tryz.f110.results.toList,[]⟩),
 (111,⟨Tryz.f111.ntmps,Tryz.f111.body.getD .skip,Tryz.f111.results.toList,[]⟩),
 (112,⟨Tryz.f112.ntmps,Tryz.f112.body.getD .skip,Tryz.f112.results.toList,[]⟩),
 (113,⟨Tryz.f113.ntmps,Tryz.f113.body.getD .skip,Tryz.f113.results.toList,[]⟩),
 (114,⟨Tryz.f114.ntmps,Tryz.f114.body.getD .skip,Tryz.f114.results.toList,[]⟩),
 (115,⟨Tryz.f115.ntmps,Tryz.f115.body.getD .skip,Tryz.f115.results.toList,[]⟩),
 (116,⟨Tryz.f116.ntmps,Tryz.f116.body.getD .skip,Tryz.f116.results.toList,[(0,[(5,15),(15,5),(5,16),(16,5)])]⟩),
 (118,⟨Tryz.f118.ntmps,Tryz.f118.body.getD .skip,Tryz.f118.results.toList,[]⟩),
 (119,⟨Tryz.f119.ntmps,Tryz.f119.body.getD .skip,Tryz.f119.results.toList,[]⟩),
 (120,⟨Tryz.f120.ntmps,Tryz.f120.body.getD .skip,Tryz.f120.results.toList,[]⟩),
 (121,⟨Tryz.f121.ntmps,Tryz.f121.body.getD .skip,Tryz.f121.results.toList,[]⟩),
 (122,⟨Tryz.f122.ntmps,Tryz.f122.body.getD .skip,Tryz.f122.results.toList,[]⟩),
 (130,⟨Tryz.f130.ntmps,Tryz.f130.body.getD .skip,Tryz.f130.results.toList,[(4,[(40,44),(44,40),(44,52),(52,44)])]⟩),
 (131,⟨Tryz.f131.ntmps,Tryz.f131.body.getD .skip,Tryz.f131.results.toList,[]⟩),
 (146,⟨Tryz.f146.ntmps,Tryz.f146.body.getD .skip,Tryz.f146.results.toList,[]⟩),
 (147,⟨Tryz.f147.ntmps,Tryz.f147.body.getD .skip,Tryz.f147.results.toList,[]⟩),
 (148,⟨Tryz.f148.ntmps,Tryz.f148.body.getD .skip,Tryz.f148.results.toList,[]⟩),
 (149,⟨Tryz.f149.ntmps,Tryz.f149.body.getD .skip,Tryz.f149.results.toList,[]⟩),
 (150,⟨Tryz.f150.ntmps,Tryz.f150.body.getD .skip,Tryz.f150.results.toList,[]⟩),
 (151,⟨Tryz.f151.ntmps,Tryz.f151.body.getD .skip,Tryz.f151.results.toList,[]⟩),
 (152,⟨Tryz.f152.ntmps,Tryz.f152.body.getD .skip,Tryz.f152.results.toList,[]⟩),
 (153,⟨Tryz.f153.ntmps,Tryz.f153.body.getD .skip,Tryz.f153.results.toList,[(5,[(5,7),(7,5)])]⟩),
 (154,⟨Tryz.f154.ntmps,Tryz.f154.body.getD .skip,Tryz.f154.results.toList,[]⟩),
 (155,⟨Tryz.f155.ntmps,Tryz.f155.body.getD .skip,Tryz.f155.results.toList,[]⟩),
 (156,⟨Tryz.f156.ntmps,Tryz.f156.body.getD .skip,Tryz.f156.results.toList,[]⟩),
 (157,⟨Tryz.f157.ntmps,Tryz.f157.body.getD .skip,Tryz.f157.results.toList,[]⟩),
 (158,⟨Tryz.f158.ntmps,Tryz.f158.body.getD .skip,Tryz.f158.results.toList,[]⟩),
 (159,⟨Tryz.f159.ntmps,Tryz.f159.body.getD .skip,Tryz.f159.results.toList,[]⟩),
 (160,⟨Tryz.f160.ntmps,Tryz.f160.body.getD .skip,Tryz.f160.results.toList,[]⟩),
 (161,⟨Tryz.f161.ntmps,Tryz.f161.body.getD .skip,Tryz.f161.results.toList,[]⟩),
 (162,⟨Tryz.f162.ntmps,Tryz.f162.body.getD .skip,Tryz.f162.results.toList,[]⟩),
 (163,⟨Tryz.f163.ntmps,Tryz.f163.body.getD .skip,Tryz.f163.results.toList,[]⟩),
 (165,⟨Tryz.f165.ntmps,Tryz.f165.body.getD .skip,Tryz.f165.results.toList,[]⟩),
 (167,⟨Tryz.f167.ntmps,Tryz.f167.body.getD .skip,Tryz.f167.results.toList,[(1,[(6,11),(11,6)])]⟩),
 (168,⟨Tryz.f168.ntmps,Tryz.f168.body.getD .skip,Tryz.f168.results.toList,[(1,[(6,11),(11,6)])]⟩),
 (169,⟨Tryz.f169.ntmps,Tryz.f169.body.getD .skip,Tryz.f169.results.toList,[(0,[(6,11),(11,6),(5,16),(16,5),(6,16),(16,6),(11,16),(16,11),(12,16),(16,12),(1000,0),(1000,1),(1000,2),(1000,3),(1000,4),(1000,5),(1000,7),(1000,8),(1000,9),(1000,10),(1000,11),(1000,6),(1000,12),(1000,13),(1000,14),(1000,15),(1000,16),(1000,17),(1000,18),(1001,16)])]⟩),
 (170,⟨Tryz.f170.ntmps,Tryz.f170.body.getD .skip,Tryz.f170.results.toList,[(0,[(6,11),(11,6),(5,16),(16,5),(6,16),(16,6),(11,16),(16,11),(12,16),(16,12),(1000,0),(1000,1),(1000,2),(1000,3),(1000,4),(1000,5),(1000,7),(1000,8),(1000,9),(1000,10),(1000,11),(1000,6),(1000,12),(1000,13),(1000,14),(1000,15),(1000,16),(1000,17),(1000,18),(1001,16)])]⟩),
 (171,⟨Tryz.f171.ntmps,Tryz.f171.body.getD .skip,Tryz.f171.results.toList,[(0,[(7,12),(12,7)])]⟩),
 (172,⟨Tryz.f172.ntmps,Tryz.f172.body.getD .skip,Tryz.f172.results.toList,[(0,[(7,12),(12,7)])]⟩),
 (173,⟨Tryz.f173.ntmps,Tryz.f173.body.getD .skip,Tryz.f173.results.toList,[(0,[(6,11),(11,6)])]⟩),
 (174,⟨Tryz.f174.ntmps,Tryz.f174.body.getD .skip,Tryz.f174.results.toList,[(0,[(6,11),(11,6)]),(3,[(7,14),(14,7)])]⟩),
 (175,⟨Tryz.f175.ntmps,Tryz.f175.body.getD .skip,Tryz.f175.results.toList,[(3,[(4,6),(6,4)])]⟩),
 (176,⟨Tryz.f176.ntmps,Tryz.f176.body.getD .skip,Tryz.f176.results.toList,[(3,[(2,7),(7,2)])]⟩),
 (177,⟨Tryz.f177.ntmps,Tryz.f177.body.getD .skip,Tryz.f177.results.toList,[(17,[(5,13),(13,5)])]⟩),
 (178,⟨Tryz.f178.ntmps,Tryz.f178.body.getD .skip,Tryz.f178.results.toList,[]⟩),
 (179,⟨Tryz.f179.ntmps,Tryz.f179.body.getD .skip,Tryz.f179.results.toList,[]⟩),
 (180,⟨Tryz.f180.ntmps,Tryz.f180.body.getD .skip,Tryz.f180.results.toList,[]⟩),
 (184,⟨Tryz.f184.ntmps,Tryz.f184.body.getD .skip,Tryz.f184.results.toList,[]⟩),
 (185,⟨Tryz.f185.ntmps,Tryz.f185.body.getD .skip,Tryz.f185.results.toList,[]⟩),
 (186,⟨Tryz.f186.ntmps,Tryz.f186.body.getD .skip,Tryz.f186.results.toList,[]⟩),
 (187,⟨Tryz.f187.ntmps,Tryz.f187.body.getD .skip,Tryz.f187.results.toList,[]⟩),
 (188,⟨Tryz.f188.ntmps,Tryz.f188.body.getD .skip,Tryz.f188.results.toList,[]⟩),
 (189,⟨Tryz.f189.ntmps,Tryz.f189.body.getD .skip,Tryz.f189.results.toList,[]⟩),
 (190,⟨Tryz.f190.ntmps,Tryz.f190.body.getD .skip,Tryz.f190.results.toList,[]⟩),
 (191,⟨Tryz.f191.ntmps,Tryz.f191.body.getD .skip,Tryz.f191.results.toList,[]⟩),
 (192,⟨Tryz.f192.ntmps,Tryz.f192.body.getD .skip,Tryz.f192.results.toList,[]⟩),
 (193,⟨Tryz.f193.ntmps,Tryz.f193.body.getD .skip,Tryz.f193.results.toList,[]⟩),
 (194,⟨Tryz.f194.ntmps,Tryz.f194.body.getD .skip,Tryz.f194.results.toList,[]⟩),
 (195,⟨Tryz.f195.ntmps,Tryz.f195.body.getD .skip,Tryz.f195.results.toList,[]⟩),
 (196,⟨Tryz.f196.ntmps,Tryz.f196.body.getD .skip,Tryz.f196.results.toList,[]⟩),
 (198,⟨Tryz.f198.ntmps,Tryz.f198.body.getD .skip,Tryz.f198.results.toList,[(11,[(1,2),(2,1)])]⟩),
 (199,⟨Tryz.f199.ntmps,Tryz.f199.body.getD .skip,Tryz.f199.results.toList,[]⟩),
 (200,⟨Tryz.f200.ntmps,Tryz.f200.body.getD .skip,Tryz.f200.results.toList,[(5,[(2,9),(9,2),(4,9),(9,4),(8,9),(9,8)])]⟩),
 (201,⟨Tryz.f201.ntmps,Tryz.f201.body.getD .skip,Tryz.f201.results.toList,[(3,[(4,6),(6,4)])]⟩),
 (202,⟨Tryz.f202.ntmps,Tryz.f202.body.getD .skip,Tryz.f202.results.toList,[]⟩),
 (203,⟨Tryz.f203.ntmps,Tryz.f203.body.getD .skip,Tryz.f203.results.toList,[]⟩),
 (204,⟨Tryz.f204.ntmps,Tryz.f204.body.getD .skip,Tryz.f204.results.toList,[]⟩),
 (205,⟨Tryz.f205.ntmps,Tryz.f205.body.getD .skip,Tryz.f205.results.toList,[]⟩),
 (206,⟨Tryz.f206.ntmps,Tryz.f206.body.getD .skip,Tryz.f206.results.toList,[]⟩),
 (207,⟨Tryz.f207.ntmps,Tryz.f207.body.getD .skip,Tryz.f207.results.toList,[]⟩),
 (208,⟨Tryz.f208.ntmps,Tryz.f208.body.getD .skip,Tryz.f208.results.toList,[]⟩),
 (209,⟨Tryz.f209.ntmps,Tryz.f209.body.getD .skip,Tryz.f209.results.toList,[]⟩),
 (210,⟨Tryz.f210.ntmps,Tryz.f210.body.getD .skip,Tryz.f210.results.toList,[]⟩),
 (211,⟨Tryz.f211.ntmps,Tryz.f211.body.getD .skip,Tryz.f211.results.toList,[]⟩),
 (212,⟨Tryz.f212.ntmps,Tryz.f212.body.getD .skip,Tryz.f212.results.toList,[]⟩),
 (213,⟨Tryz.f213.ntmps,Tryz.f213.body.getD .skip,Tryz.f213.results.toList,[]⟩),
 (214,⟨Tryz.f214.ntmps,Tryz.f214.body.getD .skip,Tryz.f214.results.toList,[]⟩),
 (217,⟨Tryz.f217.ntmps,Tryz.f217.body.getD .skip,Tryz.f217.results.toList,[]⟩),
 (218,⟨Tryz.f218.ntmps,Tryz.f218.body.getD .skip,Tryz.f218.results.toList,[]⟩),
 (219,⟨Tryz.f219.ntmps,Tryz.f219.body.getD .skip,Tryz.f219.results.toList,[]⟩),
 (224,⟨Tryz.f224.ntmps,Tryz.f224.body.getD .skip,Tryz.f224.results.toList,[]⟩),
 (225,⟨Tryz.f225.ntmps,Tryz.f225.body.getD .skip,Tryz.f225.results.toList,[]⟩),
 (226,⟨Tryz.f226.ntmps,Tryz.f226.body.getD .skip,Tryz.f226.results.toList,[]⟩),
 (228,⟨Tryz.f228.ntmps,Tryz.f228.body.getD .skip,Tryz.f228.results.toList,[]⟩),
 (229,⟨Tryz.f229.ntmps,Tryz.f229.body.getD .skip,Tryz.f229.results.toList,[]⟩),
 (230,⟨Tryz.f230.ntmps,Tryz.f230.body.getD .skip,Tryz.f230.results.toList,[]⟩),
 (236,⟨Tryz.f236.ntmps,Tryz.f236.body.getD .skip,Tryz.f236.results.toList,[]⟩),
 (238,⟨Tryz.f238.ntmps,Tryz.f238.body.getD .skip,Tryz.f238.results.toList,[]⟩),
 (239,⟨Tryz.f239.ntmps,Tryz.f239.body.getD .skip,Tryz.f239.results.toList,[]⟩),
 (240,⟨Tryz.f240.ntmps,Tryz.f240.body.getD .skip,Tryz.f240.results.toList,[]⟩),
 (241,⟨Tryz.f241.ntmps,Tryz.f241.body.getD .skip,Tryz.f241.results.toList,[]⟩),
 (242,⟨Tryz.f242.ntmps,Tryz.f242.body.getD .skip,Tryz.f242.results.toList,[]⟩),
 (243,⟨Tryz.f243.ntmps,Tryz.f243.body.getD .skip,Tryz.f243.results.toList,[]⟩),
 (246,⟨Tryz.f246.ntmps,Tryz.f246.body.getD .skip,Tryz.f246.results.toList,[]⟩),
 (247,⟨Tryz.f247.ntmps,Tryz.f247.body.getD .skip,Tryz.f247.results.toList,[]⟩),
 (249,⟨Tryz.f249.ntmps,Tryz.f249.body.getD .skip,Tryz.f249.results.toList,[]⟩),
 (250,⟨Tryz.f250.ntmps,Tryz.f250.body.getD .skip,Tryz.f250.results.toList,[]⟩),
 (251,⟨Tryz.f251.ntmps,Tryz.f251.body.getD .skip,Tryz.f251.results.toList,[]⟩),
 (275,⟨Tryz.f275.ntmps,Tryz.f275.body.getD .skip,Tryz.f275.results.toList,[]⟩),
 (276,⟨Tryz.f276.ntmps,Tryz.f276.body.getD .skip,Tryz.f276.results.toList,[]⟩),
 (277,⟨Tryz.f277.ntmps,Tryz.f277.body.getD .skip,Tryz.f277.results.toList,[]⟩),
 (278,⟨Tryz.f278.ntmps,Tryz.f278.body.getD .skip,Tryz.f278.results.toList,[]⟩),
 (279,⟨Tryz.f279.ntmps,Tryz.f279.body.getD .skip,Tryz.f279.results.toList,[]⟩)]
def meths:List (Nat×String×Nat):=[(111, "Bad",275),(111, "Bool",276),(111, "Int",277),(111, "Len",278),(111, "Text",279)]
noncomputable def tab:Tab:=⟨tis,fis,[(117,spI),(253,spB),(248,spB),(252,spI)],meths,[],[(121,105),(130,121),(130,122)]⟩
theorem cfok:CfOk Tryz.prog tab.cf:=Tab.ok (by kernel_rfl) (TisOk.all (by kernel_rfl)) (FisOk.all (by kernel_rfl)) (MsOk.all (by kernel_rfl)) (by kernel_rfl)
noncomputable def t0:List (Nat×TC U):=[(117,⟨[.ik .i64],[.str],fun(a:Int×Unit)=>itoaF a.1⟩),(253,⟨[.str,.ik .u8],[.ik .i64],idxF⟩),(248,⟨[.str,.str],[.ik .i64],ix1F⟩),(252,⟨[.li (.st 134)],[.li (.st 134)],fun(a:List Zca×Unit)=>ZkN 24 a.1⟩)]
noncomputable def base:Den:=baseH [(117,spI,itoaD),(253,spB,twoD idxV),(248,spB,twoD ix1V),(252,spI,Zhm 2 24)]
theorem Zql (Γ:Den)(h:∀ρ,Γ 252 ρ=Zhm 2 24 ρ):ZdM Tryz.prog Γ 252 spI:=ZoK (t:=87) (e:=134) cfok.mo Tryz.func252 rfl ⟨rfl,rfl,rfl⟩ ⟨rfl,rfl,rfl⟩ ⟨rfl,rfl,rfl⟩ ⟨rfl,rfl,rfl⟩ ⟨rfl,rfl,rfl⟩ ⟨rfl,rfl,rfl⟩ ⟨rfl,rfl,rfl⟩ ⟨rfl,rfl,rfl⟩ rfl rfl (by kernel_rfl) (by kernel_rfl) (by decide) (by kernel_rfl) rfl h
theorem c0:Chain Tryz.prog U tab base [] t0:=Chain.itoaC (.st 134) rfl (by kernel_rfl) (by kernel_rfl) (by kernel_rfl) Go.Proofs.Tryz.strconv_Itoa Go.Proofs.Tryz.stringslite_IndexByte Go.Proofs.Tryz.stringslite_Index_one Zql rfl rfl
def pS0:Hint:=⟨[0],[],[],[],[],[],[],0⟩
def pS1:List (Nat×SE):=[(0,⟨none,.one (.c []) none⟩)]
def pS3:List SV:=[.ptr 0 0]
def pS4:List SV:=[.one (.v 0) (some (.w 1))]
def pS5:SS:=⟨1,[],2,0,[],[],[],[(.w 1,1,1)],[],[]⟩
def pS6:Hint:=⟨[0,1],[],[],[],[],[],[],0⟩
def pS7:Hint:=⟨[],[0],[],[(0,(58,1000105)),(0,(59,1000105)),(0,(66,62)),(0,(67,92)),(0,(68,105))],[],[],[],0⟩
def pS8:SS:=⟨1,[],1,1,[],[],[],[],[],[]⟩
def pS9:SS:=⟨2,[],3,0,[],[],[],[(.w 2,1,2),(.w 1,1,1)],[],[]⟩
def pS10:List (Nat×SE):=[(0,⟨none,.agg (.c []) 62 .d []⟩),(1,⟨none,.agg (.c []) 5 .d []⟩)]
def pS11:Hint:=⟨[],[0],[],[(0,(58,1000105)),(0,(59,1000105)),(0,(68,105)),(0,(66,62)),(0,(67,92))],[],[],[],0⟩
def pS12:SS:=⟨1,[⟨96,.v 0,71,(.g 0 0),[]⟩],1,1,[(.b 0 58,1000105),(.b 0 59,1000105),(.b 0 66,62),(.b 0 67,92),(.b 0 68,105)],[],[],[(.b 0 0,1,0)],[],[]⟩
def pS13:List SV:=[.one (.v 0) (some (.w 1)),.one (.v 1) (some (.w 2))]
def pS14:SS:=⟨1,[⟨96,.v 0,71,(.g 0 0),[]⟩],1,1,[(.b 0 58,1000105),(.b 0 59,1000105),(.b 0 68,105),(.b 0 66,62),(.b 0 67,92)],[],[],[(.b 0 0,1,0)],[],[]⟩
def pS15:SS:=⟨2,[],1,2,[],[],[],[],[],[]⟩
def pS16:List SV:=[.agg (.v 0) 62 (.g 0 0) []]
def pS17:List (Nat×SE):=[(0,⟨none,.one (.c []) none⟩),(1,⟨none,.one (.c []) none⟩)]
def pS18:SS:=⟨3,[],4,0,[],[],[],[(.w 3,1,3),(.w 2,1,2),(.w 1,1,1)],[],[]⟩
def pS19:List SV:=[.agg (.v 0) 3 (.g 0 0) [],.agg (.v 1) 62 (.g 1 0) [],.one (.v 2) (some (.w 1))]
def pS20:SS:=⟨3,[],2,2,[],[],[],[(.w 1,1,1)],[],[]⟩
def pS21:List SV:=[.one (.v 0) (some (.w 1)),.one (.v 1) (some (.w 2)),.one (.v 2) (some (.w 3))]
def pS22:Hint:=⟨[],[],[],[],[],[],[],0⟩
def pS23:List SV:=[.agg (.v 0) 3 (.g 0 0) [],.agg (.v 1) 62 (.g 1 0) []]
def pS24:List SV:=[.agg (.v 0) 3 (.g 0 0) [],.agg (.v 1) 35 (.g 1 0) [],.agg (.v 2) 62 (.g 2 0) [],.one (.v 3) (some (.w 1)),.one (.v 4) (some (.w 2))]
def pS25:SS:=⟨5,[],3,3,[],[],[],[(.w 2,1,2),(.w 1,1,1)],[],[]⟩
def pS26:SS:=⟨1,[⟨96,.v 0,71,(.g 0 0),[]⟩],1,1,[(.b 0 58,1000105),(.b 0 59,1000105)],[],[],[(.b 0 0,1,0)],[],[]⟩
def pS27:SS:=⟨4,[],5,0,[],[],[],[(.w 4,1,4),(.w 3,1,3),(.w 2,1,2),(.w 1,1,1)],[],[]⟩
def pS28:List SV:=[.agg (.v 0) 9 (.g 0 0) [],.agg (.v 1) 6 (.g 1 0) []]
def pS29:List SV:=[.ptr 0 0,.one (.v 0) (some (.w 1))]
def pS30:Hint:=⟨[0],[],[],[(0,(58,1000105)),(0,(59,1000105))],[],[],[],0⟩
def pS32:List SV:=[.one (.v 0) (some (.w 1)),.one (.v 1) (some (.w 2)),.one (.v 2) (some (.w 3)),.one (.v 3) (some (.w 4)),.fn (.func 115) [] []]
def pS33:SS:=⟨2,[],2,1,[],[],[],[(.w 1,1,1)],[],[]⟩
def pS34:SS:=⟨5,[],4,2,[],[],[],[(.w 3,1,3),(.w 2,1,2),(.w 1,1,1)],[],[]⟩
def pS35:List (Nat×SE):=[(0,⟨none,.agg (.c []) 9 .d []⟩)]
def pS36:SS:=⟨3,[],3,1,[],[],[],[(.w 2,1,2),(.w 1,1,1)],[],[]⟩
def pS37:List (Nat×SE):=[(0,⟨none,.agg (.c []) 6 .d []⟩)]
def pS38:SS:=⟨2,[⟨96,.v 1,71,(.g 0 0),[]⟩],2,1,[(.b 0 58,1000105),(.b 0 59,1000105),(.b 0 66,62),(.b 0 67,92),(.b 0 68,105)],[],[],[(.b 0 0,1,0),(.w 1,1,1)],[],[]⟩
def pS39:Hint:=⟨[0,1],[],[],[(0,(58,1000105)),(0,(59,1000105))],[],[],[],0⟩
def hS0:Sigma fun t:Ty=>t.T U:=⟨.st 47,((⟨[],[],[],false,false⟩:Zab):Zab)⟩
def hS1:Sigma fun t:Ty=>t.T U:=⟨.st 96,z6⟩
def hS2:Sigma fun t:Ty=>t.T U:=⟨.li (.str),([]:List ByteArray)⟩
def hS3:Sigma fun t:Ty=>t.T U:=⟨.st 30,z3⟩
def hS4:Sigma fun t:Ty=>t.T U:=⟨.li (.str),([(⟨#[]⟩:ByteArray)]:List ByteArray)⟩
def hS5:Sigma fun t:Ty=>t.T U:=⟨.li (.ik .i64),([]:List Int)⟩
def hS6:Sigma fun t:Ty=>t.T U:=⟨.st 158,((⟨false,[]⟩:Zad):Zad)⟩
def hS7:Sigma fun t:Ty=>t.T U:=⟨.li (.ik .i64),([(0:Int)]:List Int)⟩
def hS8:Sigma fun t:Ty=>t.T U:=⟨.st 62,z0⟩
def hS9:Sigma fun t:Ty=>t.T U:=⟨.li (.st 158),([]:List Zad)⟩
def hS10:Sigma fun t:Ty=>t.T U:=⟨.li (.st 105),([]:List Zao)⟩
def hS11:Sigma fun t:Ty=>t.T U:=⟨.st 131,z5⟩
def hS13:Sigma fun t:Ty=>t.T U:=⟨.li (.st 162),([(⟨(0:Int),(⟨#[]⟩:ByteArray)⟩:Zau)]:List Zau)⟩
def hS15:Sigma fun t:Ty=>t.T U:=⟨.li (.st 160),([(⟨(⟨#[]⟩:ByteArray),(⟨#[]⟩:ByteArray)⟩:Zav)]:List Zav)⟩
def hS16:Sigma fun t:Ty=>t.T U:=⟨.li (.st 105),([(⟨(⟨#[]⟩:ByteArray),(0:Int),(0:Int),(0:Int),(0:Int)⟩:Zao)]:List Zao)⟩
def hS18:Sigma fun t:Ty=>t.T U:=⟨.st 92,((⟨(0:Int),(⟨#[]⟩:ByteArray),(0:Int)⟩:Zbu):Zbu)⟩
end Go.AW.M
