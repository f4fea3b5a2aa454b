/- Walks by the logic of calls, and plain laws (several texts in one). -/
import Derived.Test.YtlnnombljiecmaaGreatDoorGh3
import Derived.Lib.ItoaNum
import Derived.Test.YtlnnombljiecmaaGreatDoorProg
import Derived.KernelRfl
namespace Go.Gh
open Go Go.Proofs
abbrev i0:Value:= .int .i64 0
abbrev u0:Value:= .int .u8 0
abbrev s0:Value:= .string ⟨#[]⟩
abbrev n0:Value:= .slice none 0 0
abbrev b0:Value:= .bool false
abbrev f0 (n:String) (t i o:Nat):Field:= .mk n t i false "" "runtime" o
abbrev f1 (n:String) (t i o:Nat):Field:= .mk n t i false "" "" o
abbrev f2 (n:String) (t i o:Nat):Field:= .mk n t i false "" "strings" o
abbrev f3 (n:String) (t i o:Nat):Field:= .mk n t i false "" "allonge/owe" o
abbrev f4 (n:String) (t i o:Nat):Field:= .mk n t i false "" "allonge/bind" o
abbrev f5 (n:String) (t i o:Nat):Field:= .mk n t i false "" "allonge/pay" o
abbrev f6 (n:String) (t i o:Nat):Field:= .mk n t i false "" "allonge/diligence" o
abbrev f7 (n:String) (t i o:Nat):Field:= .mk n t i false "" "allonge/term" o
abbrev f8 (n:String) (t i o:Nat):Field:= .mk n t i false "" "allonge/ratio" o
abbrev f9 (n:String) (t i o:Nat):Field:= .mk n t i false "" "errors" o
def tab:Tab:=[
 (0,⟨.tuple #[],1,0,.tuple #[]⟩),
 (1,⟨.func #[] #[] false,1,8,.nilFunc⟩),
 (2,⟨.int .i64,1,8,i0⟩),
 (3,⟨.int .i64,1,8,i0⟩),
 (4,⟨.bool,1,1,b0⟩),
 (5,⟨.int .u8,1,1,u0⟩),
 (6,⟨.int .u8,1,1,u0⟩),
 (7,⟨.struct #[f0 "x" 2 0 0,f0 "y" 3 1 8,f0 "signed" 4 2 16,f0 "code" 6 3 17],4,24,.agg #[i0,i0,b0,u0]⟩),
 (8,⟨.struct #[f0 "x" 2 0 0,f0 "y" 3 1 8,f0 "signed" 4 2 16,f0 "code" 6 3 17],4,24,.agg #[i0,i0,b0,u0]⟩),
 (9,⟨.string,1,16,s0⟩),
 (10,⟨.string,1,16,s0⟩),
 (11,⟨.string,1,16,s0⟩),
 (12,⟨.int .u64,1,8,.int .u64 0⟩),
 (13,⟨.struct #[f0 "msg" 9 0 0,f0 "addr" 12 1 16],2,24,.agg #[s0,.int .u64 0]⟩),
 (14,⟨.struct #[f0 "msg" 9 0 0,f0 "addr" 12 1 16],2,24,.agg #[s0,.int .u64 0]⟩),
 (15,⟨.pointer 367,1,8,.pointer none⟩),
 (16,⟨.pointer 370,1,8,.pointer none⟩),
 (17,⟨.pointer 377,1,8,.pointer none⟩),
 (20,⟨.interface #[],1,16,.nilIface⟩),
 (21,⟨.int .i32,1,4,.int .i32 0⟩),
 (22,⟨.slice 9,1,24,n0⟩),
 (23,⟨.slice 91,1,24,n0⟩),
 (24,⟨.slice 93,1,24,n0⟩),
 (25,⟨.slice 95,1,24,n0⟩),
 (26,⟨.slice 105,1,24,n0⟩),
 (27,⟨.slice 157,1,24,n0⟩),
 (28,⟨.slice 159,1,24,n0⟩),
 (29,⟨.slice 161,1,24,n0⟩),
 (30,⟨.struct #[f1 "Currencies" 22 0 0,f1 "Cities" 23 1 24,f1 "Groups" 24 2 48,f1 "Firms" 25 3 72,f1 "Orders" 26 4 96,f1 "Usances" 27 5 120,f1 "Rates" 28 6 144,f1 "Halts" 29 7 168],8,192,.agg #[n0,n0,n0,n0,n0,n0,n0,n0]⟩),
 (31,⟨.struct #[f1 "Currencies" 22 0 0,f1 "Cities" 23 1 24,f1 "Groups" 24 2 48,f1 "Firms" 25 3 72,f1 "Orders" 26 4 96,f1 "Usances" 27 5 120,f1 "Rates" 28 6 144,f1 "Halts" 29 7 168],8,192,.agg #[n0,n0,n0,n0,n0,n0,n0,n0]⟩),
 (32,⟨.struct #[f1 "Kind" 3 0 0,f1 "N" 3 1 8,f1 "Unit" 3 2 16],3,24,.agg #[i0,i0,i0]⟩),
 (33,⟨.struct #[f1 "Kind" 3 0 0,f1 "N" 3 1 8,f1 "Unit" 3 2 16],3,24,.agg #[i0,i0,i0]⟩),
 (34,⟨.struct #[f1 "Drawer" 3 0 0,f1 "Drawee" 3 1 8,f1 "Payee" 3 2 16,f1 "Sum" 3 3 24,f1 "Currency" 3 4 32,f1 "Tenor" 33 5 40,f1 "Day" 3 8 64,f1 "City" 3 9 72,f1 "Pay" 3 10 80,f1 "Need" 3 11 88,f1 "Rate" 3 12 96,f1 "Flags" 3 13 104,f1 "Parts" 3 14 112],15,120,.agg #[i0,i0,i0,i0,i0,i0,i0,i0,i0,i0,i0,i0,i0,i0,i0]⟩),
 (35,⟨.struct #[f1 "Drawer" 3 0 0,f1 "Drawee" 3 1 8,f1 "Payee" 3 2 16,f1 "Sum" 3 3 24,f1 "Currency" 3 4 32,f1 "Tenor" 33 5 40,f1 "Day" 3 8 64,f1 "City" 3 9 72,f1 "Pay" 3 10 80,f1 "Need" 3 11 88,f1 "Rate" 3 12 96,f1 "Flags" 3 13 104,f1 "Parts" 3 14 112],15,120,.agg #[i0,i0,i0,i0,i0,i0,i0,i0,i0,i0,i0,i0,i0,i0,i0]⟩),
 (36,⟨.slice 45,1,24,n0⟩),
 (37,⟨.slice 84,1,24,n0⟩),
 (38,⟨.slice 66,1,24,n0⟩),
 (39,⟨.slice 47,1,24,n0⟩),
 (40,⟨.struct #[f1 "Bill" 35 0 0,f1 "Signs" 36 15 120,f1 "Alters" 37 16 144,f1 "Acts" 38 17 168,f1 "Facts" 39 18 192],19,216,.agg #[i0,i0,i0,i0,i0,i0,i0,i0,i0,i0,i0,i0,i0,i0,i0,n0,n0,n0,n0]⟩),
 (41,⟨.struct #[f1 "Bill" 35 0 0,f1 "Signs" 36 15 120,f1 "Alters" 37 16 144,f1 "Acts" 38 17 168,f1 "Facts" 39 18 192],19,216,.agg #[i0,i0,i0,i0,i0,i0,i0,i0,i0,i0,i0,i0,i0,i0,i0,n0,n0,n0,n0]⟩),
 (42,⟨.func #[] #[4] false,1,8,.nilFunc⟩),
 (43,⟨.func #[31,41] #[4] false,1,8,.nilFunc⟩),
 (44,⟨.struct #[f1 "Kind" 3 0 0,f1 "Part" 3 1 8,f1 "Who" 3 2 16,f1 "For" 3 3 24,f1 "To" 3 4 32,f1 "Sum" 3 5 40,f1 "Day" 3 6 48,f1 "City" 3 7 56,f1 "Flags" 3 8 64],9,72,.agg #[i0,i0,i0,i0,i0,i0,i0,i0,i0]⟩),
 (45,⟨.struct #[f1 "Kind" 3 0 0,f1 "Part" 3 1 8,f1 "Who" 3 2 16,f1 "For" 3 3 24,f1 "To" 3 4 32,f1 "Sum" 3 5 40,f1 "Day" 3 6 48,f1 "City" 3 7 56,f1 "Flags" 3 8 64],9,72,.agg #[i0,i0,i0,i0,i0,i0,i0,i0,i0]⟩),
 (46,⟨.struct #[f1 "Kind" 3 0 0,f1 "At" 3 1 8,f1 "N" 3 2 16],3,24,.agg #[i0,i0,i0]⟩),
 (47,⟨.struct #[f1 "Kind" 3 0 0,f1 "At" 3 1 8,f1 "N" 3 2 16],3,24,.agg #[i0,i0,i0]⟩),
 (48,⟨.func #[41,47] #[41] false,1,8,.nilFunc⟩),
 (49,⟨.slice 55,1,24,n0⟩),
 (50,⟨.func #[31,3,41,3] #[49] false,1,8,.nilFunc⟩),
 (51,⟨.func #[49,49] #[4] false,1,8,.nilFunc⟩),
 (52,⟨.func #[41,49,3] #[49] false,1,8,.nilFunc⟩),
 (53,⟨.func #[31,3,41,5,3,5,5] #[4] false,1,8,.nilFunc⟩),
 (54,⟨.struct #[f1 "Debtor" 3 0 0,f1 "Creditor" 3 1 8,f1 "Part" 3 2 16,f1 "Sign" 3 3 24,f1 "By" 3 4 32,f1 "Turn" 3 5 40,f1 "Sum" 3 6 48,f1 "Currency" 3 7 56,f1 "State" 3 8 64],9,72,.agg #[i0,i0,i0,i0,i0,i0,i0,i0,i0]⟩),
 (55,⟨.struct #[f1 "Debtor" 3 0 0,f1 "Creditor" 3 1 8,f1 "Part" 3 2 16,f1 "Sign" 3 3 24,f1 "By" 3 4 32,f1 "Turn" 3 5 40,f1 "Sum" 3 6 48,f1 "Currency" 3 7 56,f1 "State" 3 8 64],9,72,.agg #[i0,i0,i0,i0,i0,i0,i0,i0,i0]⟩),
 (56,⟨.func #[41,3] #[41] false,1,8,.nilFunc⟩),
 (57,⟨.func #[41,3,3,3,3] #[41] false,1,8,.nilFunc⟩),
 (58,⟨.int .i64,1,8,i0⟩),
 (59,⟨.func #[31,41] #[58] false,1,8,.nilFunc⟩),
 (60,⟨.func #[31,3,41,5,3] #[4] false,1,8,.nilFunc⟩),
 (61,⟨.func #[49,55] #[3] false,1,8,.nilFunc⟩),
 (62,⟨.func #[31,3,41,5,5,3,3] #[4] false,1,8,.nilFunc⟩),
 (63,⟨.tuple #[31,41],1,0,.tuple #[.agg #[n0,n0,n0,n0,n0,n0,n0,n0],.agg #[i0,i0,i0,i0,i0,i0,i0,i0,i0,i0,i0,i0,i0,i0,i0,n0,n0,n0,n0]]⟩),
 (64,⟨.func #[] #[31,41] false,1,8,.nilFunc⟩),
 (65,⟨.struct #[f1 "Kind" 3 0 0,f1 "Who" 3 1 8,f1 "To" 3 2 16,f1 "Part" 3 3 24,f1 "At" 3 4 32,f1 "Sum" 3 5 40,f1 "Day" 3 6 48,f1 "City" 3 7 56,f1 "Form" 3 8 64],9,72,.agg #[i0,i0,i0,i0,i0,i0,i0,i0,i0]⟩),
 (66,⟨.struct #[f1 "Kind" 3 0 0,f1 "Who" 3 1 8,f1 "To" 3 2 16,f1 "Part" 3 3 24,f1 "At" 3 4 32,f1 "Sum" 3 5 40,f1 "Day" 3 6 48,f1 "City" 3 7 56,f1 "Form" 3 8 64],9,72,.agg #[i0,i0,i0,i0,i0,i0,i0,i0,i0]⟩),
 (67,⟨.func #[31,35,3] #[9] false,1,8,.nilFunc⟩),
 (68,⟨.slice 3,1,24,n0⟩),
 (69,⟨.struct #[f1 "Signs" 68 0 0,f1 "Holder" 3 1 24,f1 "Broken" 3 2 32,f1 "Bearer" 4 3 40,f1 "Agent" 3 4 48,f1 "Late" 68 5 56],6,80,.agg #[n0,i0,i0,b0,i0,n0]⟩),
 (70,⟨.struct #[f1 "Signs" 68 0 0,f1 "Holder" 3 1 24,f1 "Broken" 3 2 32,f1 "Bearer" 4 3 40,f1 "Agent" 3 4 48,f1 "Late" 68 5 56],6,80,.agg #[n0,i0,i0,b0,i0,n0]⟩),
 (71,⟨.func #[41,3,3] #[70] false,1,8,.nilFunc⟩),
 (72,⟨.func #[31] #[58] false,1,8,.nilFunc⟩),
 (73,⟨.struct #[f1 "Known" 4 0 0,f1 "N" 3 1 8],2,16,.agg #[b0,i0]⟩),
 (74,⟨.struct #[f1 "Known" 4 0 0,f1 "N" 3 1 8],2,16,.agg #[b0,i0]⟩),
 (75,⟨.func #[41,3,3] #[74] false,1,8,.nilFunc⟩),
 (76,⟨.func #[49,78] #[49] false,1,8,.nilFunc⟩),
 (77,⟨.func #[31,3,41,55,3] #[3] false,1,8,.nilFunc⟩),
 (78,⟨.func #[55] #[4] false,1,8,.nilFunc⟩),
 (79,⟨.func #[41,3] #[3] false,1,8,.nilFunc⟩),
 (80,⟨.map 3 3,1,8,.map none⟩),
 (81,⟨.tuple #[49,80],1,0,.tuple #[n0,.map none]⟩),
 (82,⟨.func #[31,3,41,3] #[49,80] false,1,8,.nilFunc⟩),
 (83,⟨.struct #[f1 "At" 3 0 0,f1 "Sum" 3 1 8],2,16,.agg #[i0,i0]⟩),
 (84,⟨.struct #[f1 "At" 3 0 0,f1 "Sum" 3 1 8],2,16,.agg #[i0,i0]⟩),
 (85,⟨.func #[3,3] #[4] false,1,8,.nilFunc⟩),
 (86,⟨.func #[31,35] #[58] false,1,8,.nilFunc⟩),
 (87,⟨.func #[31,41,3] #[58] false,1,8,.nilFunc⟩),
 (88,⟨.func #[3,3,3] #[4] false,1,8,.nilFunc⟩),
 (89,⟨.func #[41] #[58] false,1,8,.nilFunc⟩),
 (90,⟨.struct #[f1 "Name" 9 0 0,f1 "Order" 3 1 16,f1 "Currency" 3 2 24,f1 "Rest" 68 3 32,f1 "Feasts" 68 4 56,f1 "Shut" 68 5 80],6,104,.agg #[s0,i0,i0,n0,n0,n0]⟩),
 (91,⟨.struct #[f1 "Name" 9 0 0,f1 "Order" 3 1 16,f1 "Currency" 3 2 24,f1 "Rest" 68 3 32,f1 "Feasts" 68 4 56,f1 "Shut" 68 5 80],6,104,.agg #[s0,i0,i0,n0,n0,n0]⟩),
 (92,⟨.struct #[f1 "Grade" 3 0 0],1,8,.agg #[i0]⟩),
 (93,⟨.struct #[f1 "Grade" 3 0 0],1,8,.agg #[i0]⟩),
 (94,⟨.struct #[f1 "Name" 9 0 0,f1 "City" 3 1 16,f1 "Group" 3 2 24],3,32,.agg #[s0,i0,i0]⟩),
 (95,⟨.struct #[f1 "Name" 9 0 0,f1 "City" 3 1 16,f1 "Group" 3 2 24],3,32,.agg #[s0,i0,i0]⟩),
 (96,⟨.slice 98,1,24,n0⟩),
 (97,⟨.struct #[f1 "Op" 3 0 0,f1 "N" 3 1 8,f1 "Args" 96 2 16],3,40,.agg #[i0,i0,n0]⟩),
 (98,⟨.struct #[f1 "Op" 3 0 0,f1 "N" 3 1 8,f1 "Args" 96 2 16],3,40,.agg #[i0,i0,n0]⟩),
 (99,⟨.struct #[f1 "Ask" 3 0 0,f1 "Term" 98 1 8],4,48,.agg #[i0,i0,i0,n0]⟩),
 (100,⟨.struct #[f1 "Ask" 3 0 0,f1 "Term" 98 1 8],4,48,.agg #[i0,i0,i0,n0]⟩),
 (101,⟨.func #[3] #[100] false,1,8,.nilFunc⟩),
 (102,⟨.slice 100,1,24,n0⟩),
 (103,⟨.slice 210,1,24,n0⟩),
 (104,⟨.struct #[f1 "Name" 9 0 0,f1 "Accepts" 4 1 16,f1 "Choices" 103 2 24,f1 "Rules" 102 3 48],4,72,.agg #[s0,b0,n0,n0]⟩),
 (105,⟨.struct #[f1 "Name" 9 0 0,f1 "Accepts" 4 1 16,f1 "Choices" 103 2 24,f1 "Rules" 102 3 48],4,72,.agg #[s0,b0,n0,n0]⟩),
 (106,⟨.pointer 109,1,8,.pointer none⟩),
 (107,⟨.slice 5,1,24,n0⟩),
 (108,⟨.struct #[f2 "addr" 106 0 0,f2 "buf" 107 1 8],2,32,.agg #[.pointer none,n0]⟩),
 (109,⟨.struct #[f2 "addr" 106 0 0,f2 "buf" 107 1 8],2,32,.agg #[.pointer none,n0]⟩),
 (110,⟨.interface #[("Error",120)],1,16,.nilIface⟩),
 (111,⟨.interface #[("Error",120)],1,16,.nilIface⟩),
 (112,⟨.tuple #[3,111],1,0,.tuple #[i0,.nilIface]⟩),
 (113,⟨.func #[9] #[3,111] false,1,8,.nilFunc⟩),
 (114,⟨.func #[22,9] #[9] false,1,8,.nilFunc⟩),
 (115,⟨.func #[4,22] #[] true,1,8,.nilFunc⟩),
 (116,⟨.func #[3,9,9] #[9] false,1,8,.nilFunc⟩),
 (117,⟨.func #[3] #[9] false,1,8,.nilFunc⟩),
 (118,⟨.func #[33] #[9] false,1,8,.nilFunc⟩),
 (119,⟨.func #[3,3] #[9] false,1,8,.nilFunc⟩),
 (120,⟨.func #[] #[9] false,1,8,.nilFunc⟩),
 (121,⟨.tuple #[3,4],1,0,.tuple #[i0,b0]⟩),
 (122,⟨.func #[41,3] #[3,4] false,1,8,.nilFunc⟩),
 (123,⟨.func #[151] #[] false,1,8,.nilFunc⟩),
 (124,⟨.func #[151] #[] false,1,8,.nilFunc⟩),
 (125,⟨.func #[41,3,3] #[124] false,1,8,.nilFunc⟩),
 (126,⟨.func #[3,3] #[3] false,1,8,.nilFunc⟩),
 (127,⟨.func #[31] #[4] false,1,8,.nilFunc⟩),
 (128,⟨.func #[41] #[4] false,1,8,.nilFunc⟩),
 (129,⟨.func #[105] #[4] false,1,8,.nilFunc⟩),
 (130,⟨.func #[41,3] #[58] false,1,8,.nilFunc⟩),
 (131,⟨.func #[49,78] #[3] false,1,8,.nilFunc⟩),
 (132,⟨.tuple #[3,58],1,0,.tuple #[i0,i0]⟩),
 (133,⟨.func #[31,3,41,55,3] #[3,58] false,1,8,.nilFunc⟩),
 (134,⟨.func #[36,135] #[4] false,1,8,.nilFunc⟩),
 (135,⟨.func #[45] #[4] false,1,8,.nilFunc⟩),
 (136,⟨.slice 141,1,24,n0⟩),
 (137,⟨.tuple #[49,136],1,0,.tuple #[n0,n0]⟩),
 (138,⟨.func #[49,66,3,4] #[49,136] false,1,8,.nilFunc⟩),
 (139,⟨.map 3 4,1,8,.map none⟩),
 (140,⟨.struct #[f1 "Debtor" 3 0 0,f1 "Creditor" 3 1 8,f1 "Sign" 3 2 16,f1 "Sum" 3 3 24],4,32,.agg #[i0,i0,i0,i0]⟩),
 (141,⟨.struct #[f1 "Debtor" 3 0 0,f1 "Creditor" 3 1 8,f1 "Sign" 3 2 16,f1 "Sum" 3 3 24],4,32,.agg #[i0,i0,i0,i0]⟩),
 (142,⟨.func #[35] #[4] false,1,8,.nilFunc⟩),
 (143,⟨.func #[31,3,3] #[3,58] false,1,8,.nilFunc⟩),
 (144,⟨.func #[31,41,3] #[4] false,1,8,.nilFunc⟩),
 (145,⟨.func #[31,41,66] #[4] false,1,8,.nilFunc⟩),
 (146,⟨.func #[68] #[3] true,1,8,.nilFunc⟩),
 (147,⟨.func #[3] #[] false,1,8,.nilFunc⟩),
 (148,⟨.tuple #[3,3,3,58],1,0,.tuple #[i0,i0,i0,i0]⟩),
 (149,⟨.func #[3] #[3,3,3,58] false,1,8,.nilFunc⟩),
 (150,⟨.pointer 5,1,8,.pointer none⟩),
 (151,⟨.func #[3,45] #[4] false,1,8,.nilFunc⟩),
 (152,⟨.func #[41,3] #[139] false,1,8,.nilFunc⟩),
 (153,⟨.func #[98] #[4] false,1,8,.nilFunc⟩),
 (154,⟨.func #[22,3] #[58] false,1,8,.nilFunc⟩),
 (155,⟨.func #[31,91] #[4] false,1,8,.nilFunc⟩),
 (156,⟨.struct #[f1 "From" 3 0 0,f1 "To" 3 1 8,f1 "Days" 3 2 16],3,24,.agg #[i0,i0,i0]⟩),
 (157,⟨.struct #[f1 "From" 3 0 0,f1 "To" 3 1 8,f1 "Days" 3 2 16],3,24,.agg #[i0,i0,i0]⟩),
 (158,⟨.struct #[f1 "From" 3 0 0,f1 "To" 3 1 8,f1 "Num" 3 2 16,f1 "Den" 3 3 24,f1 "Since" 3 4 32],5,40,.agg #[i0,i0,i0,i0,i0]⟩),
 (159,⟨.struct #[f1 "From" 3 0 0,f1 "To" 3 1 8,f1 "Num" 3 2 16,f1 "Den" 3 3 24,f1 "Since" 3 4 32],5,40,.agg #[i0,i0,i0,i0,i0]⟩),
 (161,⟨.struct #[f1 "Order" 3 0 0,f1 "From" 3 1 8,f1 "To" 3 2 16],3,24,.agg #[i0,i0,i0]⟩),
 (162,⟨.func #[3] #[4] false,1,8,.nilFunc⟩),
 (163,⟨.tuple #[3,3],1,0,.tuple #[i0,i0]⟩),
 (164,⟨.func #[31,3,41,55,3] #[3,3] false,1,8,.nilFunc⟩),
 (165,⟨.func #[31,3,41,3] #[3] false,1,8,.nilFunc⟩),
 (166,⟨.struct #[f1 "Cell" 74 0 0,f1 "Order" 3 2 16,f1 "Path" 68 3 24,f1 "Err" 58 4 48],5,56,.agg #[b0,i0,i0,n0,i0]⟩),
 (167,⟨.struct #[f1 "Cell" 74 0 0,f1 "Order" 3 2 16,f1 "Path" 68 3 24,f1 "Err" 58 4 48],5,56,.agg #[b0,i0,i0,n0,i0]⟩),
 (168,⟨.func #[31,3,3,170] #[167] false,1,8,.nilFunc⟩),
 (169,⟨.struct #[f1 "File" 41 0 0,f1 "Sign" 3 19 216,f1 "Holder" 3 20 224,f1 "Defence" 3 21 232,f1 "Due" 3 22 240,f1 "Day" 3 23 248],24,256,.agg #[i0,i0,i0,i0,i0,i0,i0,i0,i0,i0,i0,i0,i0,i0,i0,n0,n0,n0,n0,i0,i0,i0,i0,i0]⟩),
 (170,⟨.struct #[f1 "File" 41 0 0,f1 "Sign" 3 19 216,f1 "Holder" 3 20 224,f1 "Defence" 3 21 232,f1 "Due" 3 22 240,f1 "Day" 3 23 248],24,256,.agg #[i0,i0,i0,i0,i0,i0,i0,i0,i0,i0,i0,i0,i0,i0,i0,n0,n0,n0,n0,i0,i0,i0,i0,i0]⟩),
 (171,⟨.func #[66,55] #[4] false,1,8,.nilFunc⟩),
 (172,⟨.struct #[f3 "all" 41 0 0,f3 "now" 41 19 216,f3 "day" 3 38 432,f3 "lead" 68 39 440],40,464,.agg #[i0,i0,i0,i0,i0,i0,i0,i0,i0,i0,i0,i0,i0,i0,i0,n0,n0,n0,n0,i0,i0,i0,i0,i0,i0,i0,i0,i0,i0,i0,i0,i0,i0,i0,n0,n0,n0,n0,i0,n0]⟩),
 (173,⟨.struct #[f3 "all" 41 0 0,f3 "now" 41 19 216,f3 "day" 3 38 432,f3 "lead" 68 39 440],40,464,.agg #[i0,i0,i0,i0,i0,i0,i0,i0,i0,i0,i0,i0,i0,i0,i0,n0,n0,n0,n0,i0,i0,i0,i0,i0,i0,i0,i0,i0,i0,i0,i0,i0,i0,i0,n0,n0,n0,n0,i0,n0]⟩),
 (174,⟨.struct #[Go.Field.mk "view" 173 0 true "" "allonge/owe" 0,f3 "r" 31 40 464,f3 "forum" 3 48 656,f3 "due" 3 49 664],50,672,.agg #[i0,i0,i0,i0,i0,i0,i0,i0,i0,i0,i0,i0,i0,i0,i0,n0,n0,n0,n0,i0,i0,i0,i0,i0,i0,i0,i0,i0,i0,i0,i0,i0,i0,i0,n0,n0,n0,n0,i0,n0,n0,n0,n0,n0,n0,n0,n0,n0,i0,i0]⟩),
 (175,⟨.struct #[Go.Field.mk "view" 173 0 true "" "allonge/owe" 0,f3 "r" 31 40 464,f3 "forum" 3 48 656,f3 "due" 3 49 664],50,672,.agg #[i0,i0,i0,i0,i0,i0,i0,i0,i0,i0,i0,i0,i0,i0,i0,n0,n0,n0,n0,i0,i0,i0,i0,i0,i0,i0,i0,i0,i0,i0,i0,i0,i0,i0,n0,n0,n0,n0,i0,n0,n0,n0,n0,n0,n0,n0,n0,n0,i0,i0]⟩),
 (176,⟨.tuple #[175,4],1,0,.tuple #[.agg #[i0,i0,i0,i0,i0,i0,i0,i0,i0,i0,i0,i0,i0,i0,i0,n0,n0,n0,n0,i0,i0,i0,i0,i0,i0,i0,i0,i0,i0,i0,i0,i0,i0,i0,n0,n0,n0,n0,i0,n0,n0,n0,n0,n0,n0,n0,n0,n0,i0,i0],b0]⟩),
 (177,⟨.func #[31,3,41,3] #[175,4] false,1,8,.nilFunc⟩),
 (178,⟨.slice 226,1,24,n0⟩),
 (179,⟨.func #[31,3,41,3] #[178] false,1,8,.nilFunc⟩),
 (180,⟨.func #[3] #[68] false,1,8,.nilFunc⟩),
 (181,⟨.func #[228] #[] false,1,8,.nilFunc⟩),
 (182,⟨.func #[228] #[] false,1,8,.nilFunc⟩),
 (183,⟨.func #[68] #[182] false,1,8,.nilFunc⟩),
 (184,⟨.struct #[f1 "Firm" 3 0 0,f1 "Sign" 3 1 8,f1 "State" 3 2 16],3,24,.agg #[i0,i0,i0]⟩),
 (185,⟨.struct #[f1 "Firm" 3 0 0,f1 "Sign" 3 1 8,f1 "State" 3 2 16],3,24,.agg #[i0,i0,i0]⟩),
 (186,⟨.func #[3,3,68] #[68] false,1,8,.nilFunc⟩),
 (187,⟨.func #[185,3,68,178] #[3,3] false,1,8,.nilFunc⟩),
 (188,⟨.struct #[f1 "Sum" 3 0 0,f1 "Interest" 3 1 8,f1 "Costs" 3 2 16,f1 "Exchange" 3 3 24,f1 "Paid" 3 4 32,f1 "Rest" 3 5 40,f1 "Currency" 3 6 48],7,56,.agg #[i0,i0,i0,i0,i0,i0,i0]⟩),
 (189,⟨.struct #[f1 "Sum" 3 0 0,f1 "Interest" 3 1 8,f1 "Costs" 3 2 16,f1 "Exchange" 3 3 24,f1 "Paid" 3 4 32,f1 "Rest" 3 5 40,f1 "Currency" 3 6 48],7,56,.agg #[i0,i0,i0,i0,i0,i0,i0]⟩),
 (190,⟨.func #[31,3,41,3,3] #[189] false,1,8,.nilFunc⟩),
 (191,⟨.func #[36,135] #[3] false,1,8,.nilFunc⟩),
 (192,⟨.func #[49] #[49] false,1,8,.nilFunc⟩),
 (193,⟨.func #[66,4,55] #[4] false,1,8,.nilFunc⟩),
 (194,⟨.func #[49,55] #[49] false,1,8,.nilFunc⟩),
 (195,⟨.tuple #[22,22,22],1,0,.tuple #[n0,n0,n0]⟩),
 (196,⟨.func #[31] #[22,22,22] false,1,8,.nilFunc⟩),
 (197,⟨.func #[22,3,162] #[58] false,1,8,.nilFunc⟩),
 (198,⟨.func #[41,3,68] #[4] true,1,8,.nilFunc⟩),
 (199,⟨.func #[41,3,3] #[4] false,1,8,.nilFunc⟩),
 (203,⟨.tuple #[3,3,3],1,0,.tuple #[i0,i0,i0]⟩),
 (204,⟨.func #[3] #[3,3,3] false,1,8,.nilFunc⟩),
 (206,⟨.func #[9] #[4] false,1,8,.nilFunc⟩),
 (207,⟨.func #[22,3,9] #[4] false,1,8,.nilFunc⟩),
 (208,⟨.func #[68,3,3] #[4] false,1,8,.nilFunc⟩),
 (209,⟨.struct #[f1 "Ask" 3 0 0,f1 "By" 3 1 8,f1 "Whole" 4 2 16],3,24,.agg #[i0,i0,b0]⟩),
 (210,⟨.struct #[f1 "Ask" 3 0 0,f1 "By" 3 1 8,f1 "Whole" 4 2 16],3,24,.agg #[i0,i0,b0]⟩),
 (211,⟨.func #[41,3] #[4] false,1,8,.nilFunc⟩),
 (212,⟨.func #[167] #[3] false,1,8,.nilFunc⟩),
 (213,⟨.func #[31,3,3,41,3] #[167] false,1,8,.nilFunc⟩),
 (214,⟨.func #[31,35,3,3] #[3,58] false,1,8,.nilFunc⟩),
 (215,⟨.func #[41] #[3] false,1,8,.nilFunc⟩),
 (216,⟨.slice 74,1,24,n0⟩),
 (217,⟨.tuple #[167,216],1,0,.tuple #[.agg #[b0,i0,i0,n0,i0],n0]⟩),
 (218,⟨.func #[31,3,3,170] #[167,216] false,1,8,.nilFunc⟩),
 (219,⟨.tuple #[74,58],1,0,.tuple #[.agg #[b0,i0],i0]⟩),
 (220,⟨.func #[105,3,216] #[74,58] false,1,8,.nilFunc⟩),
 (221,⟨.func #[41,3] #[173] false,1,8,.nilFunc⟩),
 (222,⟨.struct #[f4 "r" 31 0 0,f4 "forum" 3 8 192,f4 "day" 3 9 200,f4 "f" 41 10 208,f4 "form" 3 29 424,f4 "due" 3 30 432],31,440,.agg #[n0,n0,n0,n0,n0,n0,n0,n0,i0,i0,i0,i0,i0,i0,i0,i0,i0,i0,i0,i0,i0,i0,i0,i0,i0,n0,n0,n0,n0,i0,i0]⟩),
 (223,⟨.struct #[f4 "r" 31 0 0,f4 "forum" 3 8 192,f4 "day" 3 9 200,f4 "f" 41 10 208,f4 "form" 3 29 424,f4 "due" 3 30 432],31,440,.agg #[n0,n0,n0,n0,n0,n0,n0,n0,i0,i0,i0,i0,i0,i0,i0,i0,i0,i0,i0,i0,i0,i0,i0,i0,i0,n0,n0,n0,n0,i0,i0]⟩),
 (224,⟨.func #[31,3,41,3] #[223] false,1,8,.nilFunc⟩),
 (225,⟨.struct #[f1 "Sign" 3 0 0,f1 "Kind" 3 1 8,f1 "Firm" 3 2 16,f1 "Binds" 3 3 24,f1 "Text" 3 4 32,f1 "Sum" 3 5 40,f1 "Recourse" 4 6 48],7,56,.agg #[i0,i0,i0,i0,i0,i0,b0]⟩),
 (226,⟨.struct #[f1 "Sign" 3 0 0,f1 "Kind" 3 1 8,f1 "Firm" 3 2 16,f1 "Binds" 3 3 24,f1 "Text" 3 4 32,f1 "Sum" 3 5 40,f1 "Recourse" 4 6 48],7,56,.agg #[i0,i0,i0,i0,i0,i0,b0]⟩),
 (227,⟨.func #[3] #[226] false,1,8,.nilFunc⟩),
 (228,⟨.func #[185] #[4] false,1,8,.nilFunc⟩),
 (229,⟨.func #[68,3] #[4] false,1,8,.nilFunc⟩),
 (230,⟨.func #[3] #[3] false,1,8,.nilFunc⟩),
 (231,⟨.func #[38,232] #[4] false,1,8,.nilFunc⟩),
 (232,⟨.func #[66] #[4] false,1,8,.nilFunc⟩),
 (233,⟨.struct #[f1 "Shown" 3 0 0,f1 "Protest" 3 1 8,f1 "Notice" 3 2 16,f1 "All" 3 3 24],4,32,.agg #[i0,i0,i0,i0]⟩),
 (234,⟨.struct #[f1 "Shown" 3 0 0,f1 "Protest" 3 1 8,f1 "Notice" 3 2 16,f1 "All" 3 3 24],4,32,.agg #[i0,i0,i0,i0]⟩),
 (236,⟨.tuple #[226,4],1,0,.tuple #[.agg #[i0,i0,i0,i0,i0,i0,b0],b0]⟩),
 (237,⟨.func #[31,3,41,3,3] #[226,4] false,1,8,.nilFunc⟩),
 (238,⟨.func #[3,3,3,3] #[3] false,1,8,.nilFunc⟩),
 (239,⟨.func #[31,35,3,3,3,3] #[3] false,1,8,.nilFunc⟩),
 (240,⟨.struct #[f5 "debtor" 3 0 0,f5 "creditor" 3 1 8,f5 "part" 3 2 16,f5 "sign" 3 3 24,f5 "by" 3 4 32],5,40,.agg #[i0,i0,i0,i0,i0]⟩),
 (241,⟨.struct #[f5 "debtor" 3 0 0,f5 "creditor" 3 1 8,f5 "part" 3 2 16,f5 "sign" 3 3 24,f5 "by" 3 4 32],5,40,.agg #[i0,i0,i0,i0,i0]⟩),
 (242,⟨.func #[55] #[241] false,1,8,.nilFunc⟩),
 (243,⟨.func #[3] #[107] false,1,8,.nilFunc⟩),
 (244,⟨.array 24 5,24,24,.agg (Array.mk (List.replicate 24 u0))⟩),
 (245,⟨.int .u64,1,8,.int .u64 0⟩),
 (246,⟨.func #[245] #[3] false,1,8,.nilFunc⟩),
 (247,⟨.func #[107,245] #[] false,1,8,.nilFunc⟩),
 (248,⟨.tuple #[107,9],1,0,.tuple #[n0,s0]⟩),
 (250,⟨.func #[5] #[4] false,1,8,.nilFunc⟩),
 (251,⟨.struct #[f6 "r" 31 0 0,f6 "forum" 3 8 192,f6 "f" 41 9 200,f6 "sign" 3 28 416,f6 "day" 3 29 424,f6 "due" 3 30 432],31,440,.agg #[n0,n0,n0,n0,n0,n0,n0,n0,i0,i0,i0,i0,i0,i0,i0,i0,i0,i0,i0,i0,i0,i0,i0,i0,n0,n0,n0,n0,i0,i0,i0]⟩),
 (252,⟨.struct #[f6 "r" 31 0 0,f6 "forum" 3 8 192,f6 "f" 41 9 200,f6 "sign" 3 28 416,f6 "day" 3 29 424,f6 "due" 3 30 432],31,440,.agg #[n0,n0,n0,n0,n0,n0,n0,n0,i0,i0,i0,i0,i0,i0,i0,i0,i0,i0,i0,i0,i0,i0,i0,i0,n0,n0,n0,n0,i0,i0,i0]⟩),
 (253,⟨.func #[31,3,41,3,3] #[252] false,1,8,.nilFunc⟩),
 (255,⟨.func #[31,3] #[4] false,1,8,.nilFunc⟩),
 (259,⟨.tuple #[170,216],1,0,.tuple #[.agg #[i0,i0,i0,i0,i0,i0,i0,i0,i0,i0,i0,i0,i0,i0,i0,n0,n0,n0,n0,i0,i0,i0,i0,i0],n0]⟩),
 (260,⟨.func #[31,170] #[170,216] false,1,8,.nilFunc⟩),
 (261,⟨.func #[3] #[3,4] false,1,8,.nilFunc⟩),
 (262,⟨.func #[31,3,170] #[68] false,1,8,.nilFunc⟩),
 (263,⟨.tuple #[68,58],1,0,.tuple #[n0,i0]⟩),
 (264,⟨.func #[31,3,3,68] #[68,58] false,1,8,.nilFunc⟩),
 (265,⟨.tuple #[98,58],1,0,.tuple #[.agg #[i0,i0,n0],i0]⟩),
 (266,⟨.func #[105,3] #[98,58] false,1,8,.nilFunc⟩),
 (267,⟨.func #[98,216] #[74] false,1,8,.nilFunc⟩),
 (268,⟨.func #[68] #[] false,1,8,.nilFunc⟩),
 (269,⟨.func #[68] #[68] false,1,8,.nilFunc⟩),
 (270,⟨.func #[3] #[3,3] false,1,8,.nilFunc⟩),
 (271,⟨.func #[68,3] #[3] false,1,8,.nilFunc⟩),
 (272,⟨.func #[38,232] #[3] false,1,8,.nilFunc⟩),
 (273,⟨.func #[167,3] #[3] false,1,8,.nilFunc⟩),
 (274,⟨.func #[3] #[167] false,1,8,.nilFunc⟩),
 (275,⟨.func #[3,3,3,3,3] #[3,58] false,1,8,.nilFunc⟩),
 (276,⟨.struct #[f1 "Num" 3 0 0,f1 "Den" 3 1 8],2,16,.agg #[i0,i0]⟩),
 (277,⟨.struct #[f1 "Num" 3 0 0,f1 "Den" 3 1 8],2,16,.agg #[i0,i0]⟩),
 (278,⟨.tuple #[277,4],1,0,.tuple #[.agg #[i0,i0],b0]⟩),
 (282,⟨.func #[4] #[3] false,1,8,.nilFunc⟩),
 (283,⟨.array 20 245,20,160,.agg #[.int .u64 0,.int .u64 0,.int .u64 0,.int .u64 0,.int .u64 0,.int .u64 0,.int .u64 0,.int .u64 0,.int .u64 0,.int .u64 0,.int .u64 0,.int .u64 0,.int .u64 0,.int .u64 0,.int .u64 0,.int .u64 0,.int .u64 0,.int .u64 0,.int .u64 0,.int .u64 0]⟩),
 (284,⟨.int .u32,1,4,.int .u32 0⟩),
 (286,⟨.int .u64,1,8,.int .u64 0⟩),
 (293,⟨.array 10 3,10,80,.agg #[i0,i0,i0,i0,i0,i0,i0,i0,i0,i0]⟩),
 (297,⟨.func #[100] #[4] false,1,8,.nilFunc⟩),
 (299,⟨.tuple #[74,68],1,0,.tuple #[.agg #[b0,i0],n0]⟩),
 (301,⟨.struct #[f7 "cells" 216 0 0],1,24,.agg #[n0]⟩),
 (303,⟨.func #[68,3,3,3] #[] false,1,8,.nilFunc⟩),
 (305,⟨.func #[47] #[4] false,1,8,.nilFunc⟩),
 (308,⟨.struct #[f6 "known" 4 0 0,f6 "last" 3 1 8],2,16,.agg #[b0,i0]⟩),
 (311,⟨.tuple #[3,3,4],1,0,.tuple #[i0,i0,b0]⟩),
 (314,⟨.tuple #[277,58],1,0,.tuple #[.agg #[i0,i0],i0]⟩),
 (316,⟨.tuple #[245,245],1,0,.tuple #[.int .u64 0,.int .u64 0]⟩),
 (317,⟨.func #[245,245] #[245,245] false,1,8,.nilFunc⟩),
 (322,⟨.func #[162] #[] false,1,8,.nilFunc⟩),
 (323,⟨.func #[162] #[] false,1,8,.nilFunc⟩),
 (326,⟨.func #[84] #[4] false,1,8,.nilFunc⟩),
 (331,⟨.slice 68,1,24,n0⟩),
 (345,⟨.struct #[f8 "hi" 245 0 0,f8 "lo" 245 1 8],2,16,.agg #[.int .u64 0,.int .u64 0]⟩),
 (353,⟨.struct #[f7 "args" 68 0 0,f7 "result" 3 1 24],2,32,.agg #[n0,i0]⟩),
 (357,⟨.int .u64,1,8,.int .u64 0⟩),
 (363,⟨.pointer 357,1,8,.pointer none⟩),
 (367,⟨.struct #[f0 "_interface" 17 0 0,f0 "concrete" 17 1 8,f0 "asserted" 17 2 16,f0 "missingMethod" 9 3 24],4,40,.agg #[.pointer none,.pointer none,.pointer none,s0]⟩),
 (368,⟨.array 0 16,0,0,.agg #[]⟩),
 (370,⟨.struct #[f0 "_" 368 0 0],0,0,.agg #[]⟩),
 (371,⟨.int .u8,1,1,u0⟩),
 (372,⟨.int .u8,1,1,u0⟩),
 (373,⟨.func #[200,200] #[4] false,1,8,.nilFunc⟩),
 (374,⟨.int .i32,1,4,.int .i32 0⟩),
 (375,⟨.int .i32,1,4,.int .i32 0⟩),
 (377,⟨.struct #[f1 "Size_" 12 0 0,f1 "PtrBytes" 12 1 8,f1 "Hash" 284 2 16,f1 "TFlag" 371 3 20,f1 "Align_" 5 4 21,f1 "FieldAlign_" 5 5 22,f1 "Kind_" 372 6 23,f1 "Equal" 373 7 24,f1 "GCData" 150 8 32,f1 "Str" 374 9 40,f1 "PtrToThis" 375 10 44],11,48,.agg #[.int .u64 0,.int .u64 0,.int .u32 0,u0,u0,u0,u0,.nilFunc,.pointer none,.int .i32 0,.int .i32 0]⟩)]
instance seatLaid:Laid:=⟨[(1,Vv .u64 Lib.pow10Tab),(2,Vv .i64 [6,7,10,12,13,14,15,16,20,21])]⟩
theorem Qx:za Tryz.prog tab:=by
 unfold tab
 repeat (first|exact za.nil _|refine za.cons ⟨by kernel_rfl,by kernel_rfl⟩ ?_)
theorem env:Env Tryz.prog tab:=⟨Qx,by kernel_rfl⟩
theorem iP.{u} {c:Prop} {h:Decidable c} (hc:c) {α:Sort u} {t e:α} :ite c t e=t:=if_pos hc
theorem iQ.{u} {c:Prop} {h:Decidable c} (hc:¬c) {α:Sort u} {t e:α} :ite c t e=e:=if_neg hc
abbrev dF {α:Type} [Inhabited α]:α:=default
section
open Go.Gh
theorem gR {nt p:Nat} {R:Exit->St->Prop} {c':Code} {K K':List Kont} (hs:List (Hint Tryz.prog)) (kp:List Nat) {id:Nat} {ops:Array Oper} {draw:Bool} {tm tm' tm1:List (Nat×G)} {h0 h1 h2:List (Nat×Option Blk)} {n n1:Nat} {feet:List Foot} {pr pr':List Prop} {hs':List (Hint Tryz.prog)}
 (hq:GK Tryz.prog nt p R c' K' ⟨tm',h2,n1⟩) (h:jl Tryz.prog false tab nt ops ops.toList tm h0 n [] hs=some (pr,⟨tm1,h1,n1⟩,feet,hs'):=by rfl) (hok:Wb ops nt draw feet=true:=by kernel_rfl) (hk:QP tm1 kp=some tm':=by rfl) (hh:nfH [] h1=some h2:=by rfl) (hn:nrm 1000 .skip K=some (c',K'):=by rfl) (hf:nfP pr=some pr':=by rfl)
 (hp:zC pr':=by first|trivial|(simp only[zC,bb,toN];repeat' first|exact trivial|exact zH.refl _|exact zE.refl _|exact rfl|omega|apply And.intro|intro _|exact QI (by simp_all;done))):GK Tryz.prog nt p R (.region id ops draw) K ⟨tm,h0,n⟩:=
 zG env false hs kp hq h hok hk hh hn hf hp
theorem gE {nt p:Nat} {R:Exit->St->Prop} {c':Code} {K K':List Kont} (kp:List Nat) {id:Nat} {ops:Array Oper} {draw:Bool} {tm tm' tm1:List (Nat×G)} {h0 h1 h2:List (Nat×Option Blk)} {n n1:Nat} {feet:List Foot} {pr pr':List Prop} {hs':List (Hint Tryz.prog)}
 (hq:GK Tryz.prog nt p R c' K' ⟨tm',h2,n1⟩) (h:jl Tryz.prog false tab nt ops ops.toList tm h0 n [] []=some (pr,⟨tm1,h1,n1⟩,feet,hs'):=by rfl) (hok:Wb ops nt draw feet=true:=by kernel_rfl) (hk:QP tm1 kp=some tm':=by rfl) (hh:nfH [] h1=some h2:=by rfl) (hn:nrm 1000 .skip K=some (c',K'):=by rfl) (hf:nfP pr=some pr':=by rfl)
 (hp:zC pr':=by first|trivial|(simp only[zC,bb,toN];repeat' first|exact trivial|exact zH.refl _|exact zE.refl _|exact rfl|omega|apply And.intro|intro _|exact QI (by simp_all;done))):GK Tryz.prog nt p R (.region id ops draw) K ⟨tm,h0,n⟩:=
 zG env false [] kp hq h hok hk hh hn hf hp
theorem iN {b:Bool} {α:Type _} {x y:α} {i:Decidable (b=true)} (h:b=false): @ite α (b=true) i x y=y:=if_neg (by rw[h];exact Bool.noConfusion)
theorem gP {nt p:Nat} {R:Exit->St->Prop} {c':Code} {K K':List Kont} (hs:List (Hint Tryz.prog)) (kp:List Nat) {id:Nat} {ops:Array Oper} {draw:Bool} {tm tm' tm1:List (Nat×G)} {h0 h1 h2:List (Nat×Option Blk)} {n n1:Nat} {feet:List Foot} {pr pr':List Prop} {hs':List (Hint Tryz.prog)}
 (hq:GK Tryz.prog nt p R c' K' ⟨tm',h2,n1⟩) (h:jl Tryz.prog false tab nt ops ops.toList tm h0 n [] hs=some (pr,⟨tm1,h1,n1⟩,feet,hs'):=by rfl) (hok:Wb ops nt draw feet=true:=by kernel_rfl) (hk:QP tm1 kp=some tm':=by rfl) (hh:nfH [] h1=some h2:=by rfl) (hn:nrm 1000 .skip K=some (c',K'):=by rfl) (hf:nfP pr=some pr':=by rfl)
 (hp:zC pr':=by simp only[zC,bb,toN,loI,hiI];repeat' first|exact trivial|exact zH.refl _|exact zE.refl _|exact rfl|omega|apply And.intro|intro _):GK Tryz.prog nt p R (.region id ops draw) K ⟨tm,h0,n⟩:=
 zG env false hs kp hq h hok hk hh hn hf hp
theorem gU {nt p:Nat} {R:Exit->St->Prop} {c':Code} {K K':List Kont} (hs:List (Hint Tryz.prog)) (kp:List Nat) {id:Nat} {ops:Array Oper} {draw:Bool} {tm tm' tm1:List (Nat×G)} {h0 h1 h2:List (Nat×Option Blk)} {n n1:Nat} {feet:List Foot} {pr pr':List Prop} {hs':List (Hint Tryz.prog)}
 (hq:GK Tryz.prog nt p R c' K' ⟨tm',h2,n1⟩) (h:jl Tryz.prog false tab nt ops ops.toList tm h0 n [] hs=some (pr,⟨tm1,h1,n1⟩,feet,hs'):=by rfl) (hok:Wb ops nt draw feet=true:=by kernel_rfl) (hk:QP tm1 kp=some tm':=by rfl) (hh:nfH [] h1=some h2:=by rfl) (hn:nrm 1000 .skip K=some (c',K'):=by rfl) (hf:nfP pr=some pr':=by rfl)
 (hp:zC pr':=by simp only[zC,Int.toNat_natCast];repeat' first|exact trivial|exact zH.refl _|exact zE.refl _|exact rfl|omega|apply And.intro|intro _|(simp[zR];done)|(simp only[List.length_append,List.length_cons,List.length_nil];omega)|(simp[*];done)):GK Tryz.prog nt p R (.region id ops draw) K ⟨tm,h0,n⟩:=
 zG env false hs kp hq h hok hk hh hn hf hp
theorem gT {nt p:Nat} {K:List Kont} {σ:St} {fn:Func} {ps ps':List Prop} {gs:List G} {g:G} (he:yR gs=g) (h:Hk tab σ fn.results.toList=some (ps,gs):=by rfl) (hf:nfP ps=some ps':=by rfl) (hp:zC ps':=by first|trivial|simp[zC]):GK Tryz.prog nt p (fun e σ=>VC e/\UV Tryz.prog fn σ g) .ret K σ:=
 ZDz env he h hf hp
end
theorem t11 {p:Prop} (h:p:=by omega):p:=h
theorem t12 {p:Prop} (h:p:=by assumption):p:=h
theorem t14 {p:Prop} (h:p:=by simp only[zC,bb,toN,loI,hiI];repeat' first|exact trivial|exact zH.refl _|exact zE.refl _|exact rfl|omega|apply And.intro|intro _):p:=h
theorem t15 {p:Prop} (h:p:=by simp only[zC,bb,toN,loI,hiI];repeat' first|exact trivial|exact zH.refl _|exact zE.refl _|exact rfl|omega|apply And.intro|intro _|(simp;done)):p:=h
theorem t16 {p:Prop} (h:p:=by first|assumption|(constructor<;>omega)):p:=h
theorem t17 {p:Prop} (h:p:=by first|omega|(simp;done)|decide):p:=h
theorem t19 {p:Prop} (h:p:=by simp only[bb];omega):p:=h
theorem t21 {p:Prop} (h:p:=by first|omega|(simp only[List.length_set];omega)):p:=h
theorem t23 {p:Prop} (h:p:=by decide):p:=h
theorem t24 {p:Prop} (h:p:=by simp only[zC];repeat' first|exact trivial|exact zH.refl _|exact zE.refl _|exact rfl|omega|apply And.intro|intro _|(simp;done)):p:=h
theorem t25 {p:Prop} (h:p:=by simp):p:=h
theorem t26 {p:Prop} (h:p:=by rfl):p:=h
theorem t27 {p:Prop} (h:p:=by first|omega|(simp;done)):p:=h
theorem t29 {p:Prop} (h:p:=by simp only[zC,bb,toN];repeat' first|exact trivial|exact zH.refl _|exact zE.refl _|exact rfl|exact Nat.le_refl _|omega|apply And.intro|intro _|(rw[zR,List.map_replicate])):p:=h
theorem t30 {p:Prop} (h:p:=by rw[Bool.not_eq_true];simp only[bb];omega):p:=h
theorem t32 {p:Prop} (h:p:=by rw[List.length_map];omega):p:=h
theorem t33 {p:Prop} (h:p:=by simp only[zC,bb,toN,loI,hiI];repeat' first|exact trivial|exact zH.refl _|exact zE.refl _|exact rfl|(rw[zR,List.map_replicate])|omega|apply And.intro|intro _):p:=h
theorem t34 {p:Prop} (h:p:=by rw[List.length_take];omega):p:=h
theorem t36 {p:Prop} (h:p:=by first|assumption|omega):p:=h
theorem t40 {p:Prop} (h:p:=by simp[zC]<;>rfl):p:=h
theorem t41 {p:Prop} (h:p:=by (try simp only[zC]);repeat' first|exact trivial|exact rfl|exact zH.refl _|exact zE.refl _|(simp;done)|apply And.intro):p:=h
theorem t42 {p:Prop} (h:p:=by simp only[zC];repeat' first|exact trivial|exact zH.refl _|exact zE.refl _|exact rfl|omega|apply And.intro|intro _):p:=h
theorem t43 {p:Prop} (h:p:=by (try simp only[zC]);repeat' first|exact trivial|exact rfl|exact zH.refl _|exact zE.refl _|omega|apply And.intro|(simp;done)):p:=h
theorem t44 {p:Prop} (h:p:=by simp only[zC,bb,toN];repeat' first|exact trivial|exact zH.refl _|exact zE.refl _|exact rfl|omega|apply And.intro|intro _):p:=h
theorem t45 {p:Prop} (h:p:=by (try simp only[zC]);repeat' first|exact trivial|exact rfl|apply And.intro):p:=h
theorem t47 {p:Prop} (h:p:=by (try simp only[zC]);repeat' first|exact trivial|exact rfl|exact zH.refl _|exact zE.refl _|omega|apply And.intro|(simp;done)|(simp[*];done)):p:=h
theorem t48 {p:Prop} (h:p:=by (try simp only[zC]);repeat' first|exact trivial|exact rfl|exact List.length_append.symm|exact zH.refl _|exact zE.refl _|omega|apply And.intro):p:=h
theorem t49 {p:Prop} (h:p:=by (try simp only[zC]);repeat' first|exact trivial|exact rfl|exact zH.refl _|exact zE.refl _|omega|apply And.intro):p:=h
theorem t50 {p:Prop} (h:p:=by (try simp only[zC]);repeat' first|exact trivial|exact rfl|(simp;done)|apply And.intro):p:=h
theorem t52 {p:Prop} (h:p:=by (try simp only[zC]);repeat' first|exact trivial|exact rfl|omega|apply And.intro):p:=h
theorem t54 {p:Prop} (h:p:=by simp[zC];rfl):p:=h
set_option maxRecDepth 1000000
set_option maxHeartbeats 2000000
set_option linter.unusedSimpArgs false
set_option linter.unusedVariables false
set_option linter.unnecessarySimpa false
open Go.RowKit
class Dep where
 d:Nat
def mnI (a b:Int):Int:=if b<a then b else a
def mxI (a b:Int):Int:=if a<b then b else a
def yn (n:Int):Prop:= -9223372036854775808<=n/\n<=9223372036854775807
def ub (c:Int):Bool:=decide (97<=c)&&decide (c<=122)||decide (65<=c)&&decide (c<=90)
def wk (c:Int):Bool:=decide (48<=c)&&decide (c<=57)
def bs (s:ByteArray):List UInt8:=s.data.toList
theorem ZAd (s:ByteArray):(bs s).length=s.size:=by show s.data.toList.length=_;rw[Array.length_toList];rfl
instance :Inhabited ByteArray:=⟨⟨#[]⟩⟩
def zf (s:ByteArray):List D:=[.sc (.string s)]
abbrev vW (l:List ByteArray):G:= .d (.row dF zf l)
abbrev rowSD (l:List ByteArray):D:= .row dF zf l
def inC (n:Int):List D:=[.sc (.int .i64 n)]
abbrev qq (l:List Int):G:= .d (.row dF inC l)
theorem zJ {α:Type} [Inhabited α] {l:List α} {i:Nat} (h:i<l.length):l.getD i dF∈l:=by
 rw[List.getD_eq_getElem?_getD,List.getElem?_eq_getElem h];exact List.getElem_mem h
theorem Yb {α:Type} [Inhabited α] {l:List α} {i:Nat} (h:i<l.length):l.drop i=l.getD i dF::l.drop (i+1):=by
 rw[List.getD_eq_getElem?_getD,List.getElem?_eq_getElem h];exact List.drop_eq_getElem_cons h
theorem JJ {α:Type} {l:List α} {i:Nat} (h:¬i<l.length):l.drop i= []:=List.drop_eq_nil_of_le t11
theorem vS {α:Type} [Inhabited α] {l:List α} {k:Nat} (h:k<l.length):l.take (k+1)=l.take k++ [l.getD k dF]:=by
 rw[List.take_succ_eq_append_getElem h,List.getD_eq_getElem?_getD,List.getElem?_eq_getElem h];rfl
theorem ZW {α:Type} [Inhabited α] {cs:α->List D} {xs:List α} {i:Nat} {x:α} {ds:List D} (hi:i<xs.length) (hd:ds=cs x) (hl:(cs (xs.getD i dF)).length=(cs x).length):Uf (zR cs xs) i 0 ds=zR cs (xs.set i x):=by
 have e:(zR cs xs).getD i []=cs (xs.getD i dF):=by
  simp[zR,List.getD_eq_getElem?_getD,List.getElem?_eq_getElem hi]
 subst hd
 rw[Uf,e]
 simp only[zR,List.map_set,List.take_zero,List.nil_append,Nat.zero_add]
 rw[List.drop_of_length_le (by rw[hl];exact Nat.le_refl _),List.append_nil]
theorem Ent.rowEq {α β:Type} {df:α} {cs:α->List D} {xs:List α} {df':β} {cs':β->List D} {ys:List β} (h:zR cs xs=zR cs' ys):Ent (.d (.row df cs xs)) (.d (.row df' cs' ys)):=fun ν F w v hv=>by
 have hlen:xs.length=ys.length:=by have:=congrArg List.length h;simpa [zR]using this
 have hel:∀(i:Nat) e,ys[i]? =some e->∃e',xs[i]? =some e'/\cs e'=cs' e:=fun i e he=>by
  have h1:(zR cs' ys)[i]? =some (cs' e):=by simp[zR,he]
  rw[<-h]at h1
  simp only[zR,List.getElem?_map,Option.map_eq_some_iff]at h1
  exact h1
 cases hv with
 |d hd=>cases hd with
  |row _ _ _ A c b off es val hA hc hl hw hF hd=>
   rw[hlen]
   refine .d (.row df' cs' ys A c b off es val (fun hy=>hA fun hx=>hy (List.eq_nil_of_length_eq_zero (by rw[<-hlen,hx];rfl))) t11 (fun e he=> ?_) (fun i e j x a1 a2=> ?_) (fun i e j x a1 a2=> ?_) (fun i e j x a1 a2=> ?_))
   ·obtain ⟨i,hi⟩:=List.getElem?_of_mem he
    obtain ⟨e',h1,h2⟩:=hel i e hi
    rw[<-h2];exact hl _ (List.mem_of_getElem? h1)
   ·obtain ⟨e',h1,h2⟩:=hel i e a1
    exact hw i e' j x h1 (h2▸a2)
   ·obtain ⟨e',h1,h2⟩:=hel i e a1
    exact hF i e' j x h1 (h2▸a2)
   obtain ⟨e',h1,h2⟩:=hel i e a1
   exact hd i e' j x h1 (h2▸a2)
def nilG {α:Type} (df:α) (cs:α->List D):List α->G
 | []=> .d (.sc (.slice none 0 0))
 |x::l=> .d (.row df cs (x::l))
theorem zXe {α:Type} (df:α) (cs:α->List D) (l:List α):G.lt 0 (nilG df cs l)=true:=by cases l<;>rfl
def zQ {α:Type} (p:α->Bool):List α->Nat->Int
 | [],_=> -1
 |x::l,i=>if p x=true then i else zQ p l (i+1)
def qv (l:List Int) (x:Int):Bool:=l.any fun y=>decide (y=x)
theorem QB {α:Type} (p:α->Bool):∀(l:List α) (i:Nat),decide (0<=zQ p l i)=l.any p:=by
 intro l
 induction l with
 |nil=>intro i;rfl
 |cons x l ih=>
  intro i
  rw[zQ,List.any_cons]
  cases h:p x with
  |true=>rw[iP rfl];simp
  |false=>rw[iQ t25,ih];simp
theorem uv {α:Type} (p:α->Bool):∀(l:List α) (i:Nat),zQ p l i<(l.length:Int)+i/\-1<=zQ p l i:=by
 intro l
 induction l with
 |nil=>intro i;simp[zQ];omega
 |cons x l ih=>
  intro i
  rw[zQ]
  have:=ih (i+1)
  simp only[List.length_cons]
  split<;>omega
theorem zMi (l:List ByteArray) (hl:l.length<=9223372036854775807) (x:ByteArray):GC Tryz.prog 233 [vW l,sG x] (iG (zQ (fun y=>decide (y=x)) l 0)):=by
 refine zA Tryz.func233 ?_
 refine gE [0,1,4] ?_
 refine gE [0,1,4,7,8] ?_
 refine zI (α:=Nat) (fun i=>i<=l.length/\zQ (fun y=>decide (y=x)) l 0=zQ (fun y=>decide (y=x)) (l.drop i) i) (fun i=>[(8,iG i)]) (fun _=>[]) (fun i=>l.length-i) 0 ⟨by omega,rfl⟩ ?_
 rintro i ⟨hi,he⟩
 refine gE [0,1,4,7,8,9] ?_
 refine zB ?_ ?_<;>intro c1<;>try simp only[toN]at c1
 ·refine gE [0,1,4,5,7,8] ?_
  refine gE [0,1,4,5,7,8,16] ?_
  refine zB ?_ ?_<;>intro c2<;>try simp only[toN]at c2
  ·refine gE [0,1,4,7,8] ?_
   refine gT ?_
   rw[he,Yb t11,zQ,iP (by simpa using c2.symm)];rfl
  refine gE [0,1,4,7,8] ?_
  refine zD (i+1) ?_
  refine ⟨by omega,he.trans ?_⟩
  rw[Yb t11,zQ,iQ (by simpa using fun e=>c2 e.symm)]
 refine gE [4] ?_
 refine gT ?_
 rw[he,JJ t11];rfl
theorem HC (l:List ByteArray) (hl:l.length<=9223372036854775807) (x:ByteArray):GC Tryz.prog 200 [vW l,sG x] (bG (l.any fun y=>decide (y=x))):=by
 refine zA Tryz.func200 ?_
 refine gE [0,1,4] ?_
 refine gR [.call (zMi l hl x)] [4] ?_
 refine gT ?_
 rw[<-QB];rfl
theorem zMj (l:List Int) (hl:l.length<=9223372036854775807) (x:Int):GC Tryz.prog 188 [qq l,iG x] (iG (zQ (fun y=>decide (y=x)) l 0)):=by
 refine zA Tryz.func188 ?_
 refine gE [0,1,4] ?_
 refine gE [0,1,4,7,8] ?_
 refine zI (α:=Nat) (fun i=>i<=l.length/\zQ (fun y=>decide (y=x)) l 0=zQ (fun y=>decide (y=x)) (l.drop i) i) (fun i=>[(8,iG i)]) (fun _=>[]) (fun i=>l.length-i) 0 ⟨by omega,rfl⟩ ?_
 rintro i ⟨hi,he⟩
 refine gE [0,1,4,7,8,9] ?_
 refine zB ?_ ?_<;>intro c1<;>try simp only[toN]at c1
 ·refine gE [0,1,4,5,7,8] ?_
  refine gE [0,1,4,5,7,8,16] ?_
  refine zB ?_ ?_<;>intro c2<;>try simp only[toN]at c2
  ·refine gE [0,1,4,7,8] ?_
   refine gT ?_
   rw[he,Yb t11,zQ,iP (by simpa using c2.symm)];rfl
  refine gE [0,1,4,7,8] ?_
  refine zD (i+1) ?_
  refine ⟨by omega,he.trans ?_⟩
  rw[Yb t11,zQ,iQ (by simpa using fun e=>c2 e.symm)]
 refine gE [4] ?_
 refine gT ?_
 rw[he,JJ t11];rfl
theorem zh (l:List Int) (hl:l.length<=9223372036854775807) (x:Int):GC Tryz.prog 145 [qq l,iG x] (bG (qv l x)):=by
 refine zA Tryz.func145 ?_
 refine gE [0,1,4] ?_
 refine gR [.call (zMj l hl x)] [4] ?_
 refine gT ?_
 rw[qv,<-QB];rfl
set_option linter.unusedSectionVars false
variable [Dep]
inductive Tm where
 |mk (op n:Int) (args:List Tm)
instance :Inhabited Tm:=⟨.mk 0 0 []⟩
def Tm.op:Tm->Int| .mk o _ _=>o
def Tm.n:Tm->Int| .mk _ n _=>n
def Tm.args:Tm->List Tm| .mk _ _ a=>a
def tmC:Nat->Tm->List D
 |0,t=>[.sc (.int .i64 t.op),.sc (.int .i64 t.n),.sc (.slice none 0 0)]
 |k+1,t=>[.sc (.int .i64 t.op),.sc (.int .i64 t.n),.row dF (tmC k) t.args]
structure Cty where
 name:ByteArray
 ord:Int
 cur:Int
 rest:List Int
 feasts:List Int
 shut:List Int
instance Cty_inh:Inhabited Cty:=⟨⟨⟨#[]⟩,0,0,[],[],[]⟩⟩
def ctC (c:Cty):List D:=[.sc (.string c.name),.sc (.int .i64 c.ord),.sc (.int .i64 c.cur),.row dF inC c.rest,.row dF inC c.feasts,.row dF inC c.shut]
abbrev ctG (c:Cty):G:= .agg [sG c.name,iG c.ord,iG c.cur,qq c.rest,qq c.feasts,qq c.shut]
structure Frm where
 name:ByteArray
 city:Int
 group:Int
instance Frm_inh:Inhabited Frm:=⟨⟨⟨#[]⟩,0,0⟩⟩
def fmC (f:Frm):List D:=[.sc (.string f.name),.sc (.int .i64 f.city),.sc (.int .i64 f.group)]
structure Us where
 fr:Int
 dst:Int
 days:Int
instance Us_inh:Inhabited Us:=⟨⟨0,0,0⟩⟩
def usC (u:Us):List D:=[.sc (.int .i64 u.fr),.sc (.int .i64 u.dst),.sc (.int .i64 u.days)]
structure Rt where
 fr:Int
 dst:Int
 num:Int
 den:Int
 since:Int
instance Rt_inh:Inhabited Rt:=⟨⟨0,0,0,0,0⟩⟩
def rtC (x:Rt):List D:=[.sc (.int .i64 x.fr),.sc (.int .i64 x.dst),.sc (.int .i64 x.num),.sc (.int .i64 x.den),.sc (.int .i64 x.since)]
structure Ht where
 ord:Int
 fr:Int
 dst:Int
instance Ht_inh:Inhabited Ht:=⟨⟨0,0,0⟩⟩
def htC (x:Ht):List D:=[.sc (.int .i64 x.ord),.sc (.int .i64 x.fr),.sc (.int .i64 x.dst)]
structure Cho where
 ask:Int
 by_:Int
 whole:Bool
instance Cho_inh:Inhabited Cho:=⟨⟨0,0,false⟩⟩
def zTw (c:Cho):List D:=[.sc (.int .i64 c.ask),.sc (.int .i64 c.by_),.sc (.bool c.whole)]
structure Rul where
 ask:Int
 op:Int
 n:Int
 args:List Tm
instance Rul_inh:Inhabited Rul:=⟨⟨0,0,0,[]⟩⟩
def zEd (x:Rul):List D:=[.sc (.int .i64 x.ask),.sc (.int .i64 x.op),.sc (.int .i64 x.n),.row dF (tmC Dep.d) x.args]
abbrev rulG (x:Rul):G:= .agg [iG x.ask,iG x.op,iG x.n,.d (.row dF (tmC Dep.d) x.args)]
structure Od where
 name:ByteArray
 acc:Bool
 bL:List Cho
 rules:List Rul
instance Od_inh:Inhabited Od:=⟨⟨⟨#[]⟩,false,[],[]⟩⟩
def odC (o:Od):List D:=[.sc (.string o.name),.sc (.bool o.acc),.row dF zTw o.bL,.row dF zEd o.rules]
abbrev odG (o:Od):G:= .agg [sG o.name,bG o.acc,.d (.row dF zTw o.bL),.d (.row dF zEd o.rules)]
structure Rlm where
 bA:List ByteArray
 bB:List Cty
 groups:List Int
 bC:List Frm
 bD:List Od
 bE:List Us
 rates:List Rt
 halts:List Ht
instance Rlm_inh:Inhabited Rlm:=⟨⟨[],[],[],[],[],[],[],[]⟩⟩
def rlC (r:Rlm):List D:=[rowSD r.bA,.row dF ctC r.bB,.row dF inC r.groups,.row dF fmC r.bC,.row dF odC r.bD,.row dF usC r.bE,.row dF rtC r.rates,.row dF htC r.halts]
abbrev rlG (r:Rlm):G:= .agg [vW r.bA,.d (.row dF ctC r.bB),qq r.groups,.d (.row dF fmC r.bC),.d (.row dF odC r.bD),.d (.row dF usC r.bE),.d (.row dF rtC r.rates),.d (.row dF htC r.halts)]
def inV (i n:Int):Bool:=decide (0<=i)&&decide (i<n)
def yh (l:List Int) (lo hi:Int) (i:Nat):Bool:=(decide (l.getD i dF<lo)||decide (hi<l.getD i dF))||(decide ((0:Int)<i)&&decide (l.getD i dF<=l.getD ((i:Int)-1).toNat dF))
def zj (l:List Int) (lo hi:Int) (i:Nat):Bool:=if i<l.length then if yh l lo hi i=true then false else zj l lo hi (i+1)else true
termination_by l.length-i
def Hh (s:ByteArray) (i:Nat):Bool:= !ub (WO s i)&&(decide ((i:Int)=0)||(!decide (WO s i=95)&& !wk (WO s i)))
def rnF (s:ByteArray) (i:Nat):Bool:=if i<s.size then if Hh s i=true then false else rnF s (i+1)else true
termination_by s.size-i
def jn (s:ByteArray):Bool:=if s=⟨#[]⟩∨(20:Int)<s.size then false else rnF s 0
def ZZ (l:List ByteArray) (i:Nat):Int:=if jn (l.getD i dF)=false then 2 else if (l.take i).any (fun x=>decide (x=l.getD i dF))then 5 else 0
def zd (l:List ByteArray) (fine:Nat->Bool) (i:Nat):Int:=if i<l.length then if ZZ l i=0 then if fine i=true then zd l fine (i+1)else 1 else ZZ l i else 0
termination_by l.length-i
def zY (l:List ByteArray) (most:Int) (fine:Nat->Bool):Int:=if most<l.length then 6 else zd l fine 0
def Jr (n:Int):Bool:=decide (n.tmod 100<1)||decide (31<n.tmod 100)
def qN (l:List Int) (i:Nat):Bool:=if i<l.length then if Jr (l.getD i dF)=true then false else qN l (i+1)else true
termination_by l.length-i
def vE (r:Rlm) (c:Cty):Bool:=(((decide ((60:Int)<c.feasts.length)||decide ((200:Int)<c.shut.length))|| !inV c.ord r.bD.length)|| !inV c.cur r.bA.length)
def ja (r:Rlm) (c:Cty):Bool:=if qN c.feasts 0=true then if vE r c=true then false else (zj c.rest 0 6 0&&zj c.feasts 101 1231 0)&&zj c.shut 0 100000 0 else false
def wU (l:List Cho) (i:Nat):Bool:=if i<l.length then if inV (l.getD i dF).by_ 5=true then wU l (i+1)else false else true
termination_by l.length-i
def qe (o:Od):Bool:=if wU o.bL 0=true then zj (o.bL.map fun c=>c.ask) 0 21 0&&zj (o.rules.map fun x=>x.ask) 0 21 0 else false
def wj (r:Rlm) (f:Frm):Bool:=inV f.city r.bB.length&&inV f.group r.groups.length
def yN (l:List Int) (i:Nat):Bool:=if i<l.length then if inV (l.getD i dF) 10=true then yN l (i+1)else false else true
termination_by l.length-i
def Vs (r:Rlm) (u:Us):Bool:=((!inV u.fr r.bB.length|| !inV u.dst r.bB.length)||decide (u.days<1))||decide (20000<u.days)
def HR (u x:Us):Bool:=decide (x.fr=u.fr)&&decide (x.dst=u.dst)
def usI (l:List Us) (u:Us) (k:Nat):Bool:=if k<l.length then if HR u (l.getD k dF)=true then true else usI l u (k+1)else false
termination_by l.length-k
def usF (r:Rlm) (i:Nat):Int:=if i<r.bE.length then if Vs r (r.bE.getD i dF)=true then 1 else if usI (r.bE.take i) (r.bE.getD i dF) 0=true then 5 else usF r (i+1)else 0
termination_by r.bE.length-i
def usE (r:Rlm):Int:=if (100:Int)<r.bE.length then 6 else usF r 0
def WX (r:Rlm) (x:Rt):Bool:=(((((!inV x.fr r.bA.length|| !inV x.dst r.bA.length)||decide (x.fr=x.dst))|| !inV (x.num-1) 1073741824)|| !inV (x.den-1) 1073741824)|| !inV x.since 100001)
def rtF (r:Rlm) (i:Nat):Bool:=if i<r.rates.length then if WX r (r.rates.getD i dF)=true then false else rtF r (i+1)else true
termination_by r.rates.length-i
def Wo (r:Rlm) (x:Ht):Bool:=(((!inV x.ord r.bD.length||decide (x.fr<0))||decide (x.dst<x.fr))||decide (100000<x.dst))
def htF (r:Rlm) (i:Nat):Bool:=if i<r.halts.length then if Wo r (r.halts.getD i dF)=true then false else htF r (i+1)else true
termination_by r.halts.length-i
def WZ (r:Rlm):Int:=if (100:Int)<r.rates.length then 6 else if rtF r 0=true then if (20:Int)<r.halts.length then 6 else if htF r 0=true then 0 else 1 else 1
def cityN (r:Rlm):List ByteArray:=r.bB.map fun c=>c.name
def firmN (r:Rlm):List ByteArray:=r.bC.map fun c=>c.name
def orderN (r:Rlm):List ByteArray:=r.bD.map fun c=>c.name
def orE (a b:Int):Int:=if a=0 then b else a
def YO (r:Rlm):Int:=orE (zY r.bA 8 fun _=>true) (orE (zY (cityN r) 40 fun i=>ja r (r.bB.getD i dF))
 (if (20:Int)<r.groups.length then 6 else if yN r.groups 0=true then orE (zY (firmN r) 200 fun i=>wj r (r.bC.getD i dF)) (orE (zY (orderN r) 20 fun i=>qe (r.bD.getD i dF)) (orE (usE r) (WZ r)))else 1))
structure FitC (c:Cty):Prop where
 name:c.name.size<=9223372036854775807
 rest:c.rest.length<=9223372036854775807
 feasts:c.feasts.length<=9223372036854775807
 shut:c.shut.length<=9223372036854775807
structure FitR (r:Rlm):Prop where
 cur:r.bA.length<=1000
 curS:∀s,s∈r.bA->s.size<=9223372036854775807
 bB:r.bB.length<=1000
 city:∀c,c∈r.bB->FitC c
 groups:r.groups.length<=1000
 bC:r.bC.length<=1000
 firm:∀c,c∈r.bC->c.name.size<=9223372036854775807
 bD:r.bD.length<=1000
 order:∀o,o∈r.bD->o.name.size<=9223372036854775807/\o.bL.length<=1000/\o.rules.length<=1000
 bE:r.bE.length<=1000
 rates:r.rates.length<=1000
 rate:∀x,x∈r.rates->yn x.num/\yn x.den
 halts:r.halts.length<=1000
theorem zQy {α:Type} [Inhabited α] {l:List α} {p:α->Prop} (h:∀x,x∈l->p x) {i:Nat} (hi:i<l.length):p (l.getD i dF):=h _ (zJ hi)
theorem JW {α β:Type} [Inhabited α] [Inhabited β] {l:List α} {f:α->β} {k:Nat} (h:k<l.length):(l.take (k+1)).map f=(l.take k).map f++ [f (l.getD k dF)]:=by
 rw[vS h,List.map_append];rfl
theorem qI {α:Type} [Inhabited α] {l:List α} {i:Nat} (h:i<=l.length):(l.take i).length=i:=by rw[List.length_take];omega
theorem QQ (i n:Int):GC Tryz.prog 113 [iG i,iG n] (bG (inV i n)):=by
 refine zA Tryz.func113 ?_
 refine gE [0,1,4] ?_
 refine gE [4] ?_
 refine gT ?_
 simp[inV,yR]
theorem jL (l:List Int) (hl:l.length<=9223372036854775807) (lo hi:Int):GC Tryz.prog 159 [qq l,iG lo,iG hi] (bG (zj l lo hi 0)):=by
 refine zA Tryz.func159 ?_
 refine gE [0,1,2,6] ?_
 refine gE [0,1,2,6,9,10,11] ?_
 refine zI (α:=Nat) (fun i=>i<=l.length/\zj l lo hi 0=zj l lo hi i) (fun i=>[(11,iG i)]) (fun _=>[]) (fun i=>l.length-i) 0 ⟨by omega,rfl⟩ ?_
 rintro i ⟨hj,he⟩
 refine gE [0,1,2,6,9,10,11,12] ?_
 refine zB ?_ ?_<;>intro c1<;>try simp only[toN]at c1
 ·refine gE [0,1,2,6,7,8,9,10,11] ?_
  refine gE [0,1,2,6,9,10,11,36] ?_
  refine zF ?_ ?_<;>intro c2<;>try simp only[bb,toN]at c2
  ·refine gE [0,1,2,6,9,10,11] ?_
   refine gT ?_
   rw[he,zj,iP t11,iP (by simp[yh];simp at c2;grind)];rfl
  refine gE [0,1,2,6,9,10,11] ?_
  refine zD (i+1) ?_
  refine ⟨by omega,he.trans ?_⟩
  rw[zj,iP t11,iQ (by simp[yh];simp at c2;grind)]
 refine gE [6] ?_
 refine gT ?_
 rw[he,zj,iQ t11];rfl
def byC (c:UInt8):List D:=[.sc (.int .u8 (c.toNat:Int))]
theorem zZz (s:ByteArray):zR byC (bs s)=yp s:=rfl
theorem zMh (s:ByteArray) (hs:s.size<=9223372036854775807):GC Tryz.prog 199 [sG s] (bG (jn s)):=by
 have hbl:=ZAd s
 refine zA Tryz.func199 ?_
 refine gE [0,2] ?_
 refine gE [0,2,12] ?_
 refine zF ?_ ?_<;>intro c1<;>try simp only[bb,toN]at c1
 ·refine gE [0,2] ?_
  refine gT ?_
  rw[jn,iP (by simpa using c1)];rfl
 refine gR [.el (0:UInt8) byC (bs s)] [2,14,15,16] ?_ (hp:=(by simp only[zC];exact zZz s))
 refine zI (α:=Nat) (fun i=>i<=s.size/\rnF s 0=rnF s i) (fun i=>[(16,iG i)]) (fun _=>[]) (fun i=>s.size-i) 0 ⟨by omega,rfl⟩ ?_
 rintro i ⟨hi,he⟩
 have hby:(((bs s).getD i 0).toNat:Int)=WO s i:=rfl
 refine gE [2,14,15,16,17] ?_
 refine zB ?_ ?_<;>intro c2<;>try simp only[toN]at c2
 ·refine gE [2,3,4,14,15,16] ?_
  refine gE [2,3,4,5,14,15,16] ?_
  refine gE [2,14,15,16,52] ?_
  refine zF ?_ ?_<;>intro c3<;>try simp only[bb,toN]at c3
  ·refine gE [2,14,15,16] ?_
   refine gT ?_
   simp only[hby]at c3
   rw[jn,iQ (by simpa using c1),he,rnF,iP t11,iP (by simp[Hh,ub,wk];simp at c3;grind)];rfl
  refine gE [2,14,15,16] ?_
  refine zD (i+1) ?_
  refine ⟨by omega,he.trans ?_⟩
  simp only[hby]at c3
  rw[rnF,iP t11,iQ (by simp[Hh,ub,wk];simp at c3;grind)]
 refine gE [2] ?_
 refine gT ?_
 rw[jn,iQ (by simpa using c1),he,rnF,iQ t11];rfl
theorem Wh (l:List ByteArray) (hl:l.length<=9223372036854775807) (hs:∀s,s∈l->s.size<=9223372036854775807) (i:Nat) (hi:i<l.length):GC Tryz.prog 158 [vW l,iG i] (iG (ZZ l i)):=by
 refine zA Tryz.func158 ?_
 refine gE [0,1,4] ?_
 refine gR [.call (zMh (l.getD i dF) (hs _ (zJ hi)))] [0,1,4,10] ?_
 refine zF ?_ ?_<;>intro c1<;>try simp only[bb,toN]at c1
 ·refine gE [0,1,4] ?_
  refine gT ?_
  rw[ZZ,iP (by simpa using c1)];rfl
 refine gP [.call (HC (l.take i) t34 (l.getD i dF))] [4,18] ?_
 refine zF ?_ ?_<;>intro c2<;>try simp only[bb,toN]at c2
 ·refine gE [4] ?_
  refine gT ?_
  rw[ZZ,iQ (by simpa using c1),iP c2];rfl
 refine gE [4] ?_
 refine gT ?_
 rw[ZZ,iQ (by simpa using c1),iQ (by rw[c2];simp)];rfl
theorem zEk (i:Int):GC Tryz.prog 110 [iG i] (bG true):=by
 refine zA Tryz.func110 ?_
 refine gE [2] ?_
 refine gE [2] ?_
 refine gT ?_
 rfl
theorem zZr (r:Rlm) (c:Cty) (hc:FitC c):GC Tryz.prog 112 [rlG r,ctG c] (bG (ja r c)):=by
 obtain ⟨_,h2,h3,h4⟩:=hc
 refine zA Tryz.func112 ?_
 refine gE [2,3,4] ?_
 refine gE [2,3,4,8,9,10] ?_
 refine zI (α:=Nat) (fun i=>i<=c.feasts.length/\qN c.feasts 0=qN c.feasts i) (fun i=>[(10,iG i)]) (fun _=>[]) (fun i=>c.feasts.length-i) 0 ⟨by omega,rfl⟩ ?_
 rintro i ⟨hi,he⟩
 refine gE [2,3,4,8,9,10,11] ?_
 refine zB ?_ ?_<;>intro c1<;>try simp only[toN]at c1
 ·refine gE [2,3,4,6,8,9,10] ?_
  refine zG env true [] [2,3,4,8,9,10,21] ?_
  refine zF ?_ ?_<;>intro c2<;>try simp only[bb,toN]at c2
  ·refine gE [2,3,4,8,9,10] ?_
   refine gT ?_
   rw[ja,iQ (by rw[he,qN,iP t11,iP (by simpa [Jr]using c2)];simp)];rfl
  refine gE [2,3,4,8,9,10] ?_
  refine zD (i+1) ?_
  refine ⟨by omega,he.trans ?_⟩
  rw[qN,iP t11,iQ (by simpa [Jr]using c2)]
 refine gR [.call (QQ c.ord r.bD.length),.call (QQ c.cur r.bA.length)] [3,4,50] ?_
 refine zF ?_ ?_<;>intro c3<;>try simp only[bb,toN]at c3
 ·refine gE [3,4] ?_
  refine gT ?_
  rw[ja,iP (by rw[he,qN,iQ t11]),iP (by simpa [vE]using c3)];rfl
 refine gR [.call (jL c.rest h2 0 6),.call (jL c.feasts h3 101 1231),.call (jL c.shut h4 0 100000)] [4] ?_
 refine gT ?_
 rw[ja,iP (by rw[he,qN,iQ t11]),iQ (by simpa [vE]using c3)]
 cases zj c.rest 0 6 0<;>cases zj c.feasts 101 1231 0<;>rfl
theorem zQf (o:Od) (h1:o.bL.length<=1000) (h2:o.rules.length<=1000):GC Tryz.prog 116 [odG o] (bG (qe o)):=by
 refine zA Tryz.func116 ?_
 refine gE [1,2] ?_
 refine gE [1,2,3,4] ?_
 refine YV 3 3 1 (dF:Int) inC t26 t26 ?_
 refine YV 4 3 1 (dF:Int) inC t26 t26 ?_
 refine gE [1,2,3,4,10,11,12] ?_
 refine zI (α:=Nat) (fun i=>i<=o.bL.length/\wU o.bL 0=wU o.bL i) (fun i=>[(12,iG i),(3,.sl 1 1 0 ((o.bL.take i).map fun c=>c.ask).length)]) (fun i=>[(1,some (.row 3 1 dF inC ((o.bL.take i).map fun c=>c.ask) 0))]) (fun i=>o.bL.length-i) 0 ⟨by omega,rfl⟩ ?_
 rintro i ⟨hi,he⟩
 have hl:((o.bL.take i).map fun c=>c.ask).length=i:=by rw[List.length_map,qI hi]
 refine gE [1,2,3,4,10,11,12,13] ?_
 refine zB ?_ ?_<;>intro c1<;>try simp only[toN]at c1
 ·refine gE [1,2,3,4,6,10,11,12] ?_
  refine gU [.el dF inC [(o.bL.getD i dF).ask],.el dF inC (((o.bL.take i).map fun c=>c.ask)++ [(o.bL.getD i dF).ask])] [1,2,3,4,6,10,11,12] ?_
  refine gR [.call (QQ (o.bL.getD i dF).by_ 5)] [1,2,3,4,10,11,12,24] ?_
  refine zF ?_ ?_<;>intro c2<;>try simp only[bb,toN]at c2
  ·refine gE [1,2,3,4,10,11,12] ?_
   refine gT ?_
   rw[qe,iQ (by rw[he,wU,iP t11,iQ (by simpa using c2)];simp)];rfl
  refine gE [1,2,3,4,10,11,12] ?_
  refine zD (i+1) ?_ (hp:=by simp[zC,JW (show i<o.bL.length by omega)])
  refine ⟨by omega,he.trans ?_⟩
  rw[wU,iP t11,iP (by simpa using c2)]
 refine gE [2,3,4,27,28,29] ?_
 refine zI (α:=Nat) (fun i=>i<=o.rules.length) (fun i=>[(29,iG i),(4,.sl 2 1 0 ((o.rules.take i).map fun c=>c.ask).length)]) (fun i=>[(2,some (.row 3 1 dF inC ((o.rules.take i).map fun c=>c.ask) 0))]) (fun i=>o.rules.length-i) 0 (Nat.zero_le _) ?_
 rintro k hk
 have hlk:((o.rules.take k).map fun c=>c.ask).length=k:=by rw[List.length_map,qI hk]
 refine gE [2,3,4,27,28,29,30] ?_
 refine zB ?_ ?_<;>intro c3<;>try simp only[toN]at c3
 ·refine gE [2,3,4,8,27,28,29] ?_
  refine gU [.el dF inC [(o.rules.getD k dF).ask],.el dF inC (((o.rules.take k).map fun c=>c.ask)++ [(o.rules.getD k dF).ask])] [2,3,4,27,28,29] ?_
  refine gE [2,3,4,27,28,29] ?_
  refine zD (k+1) ?_ (hp:=by simp[zC,JW (show k<o.rules.length by omega)])
  omega
 refine jB 1 ?_
 refine jB 2 ?_
 refine gR [.call (jL ((o.bL.take i).map fun c=>c.ask) t11 0 21),.call (jL ((o.rules.take k).map fun c=>c.ask) t11 0 21)] [2] ?_
 refine gT ?_
 rw[qe,iP (by rw[he,wU,iQ t11]),List.take_of_length_le (show o.bL.length<=i by omega),List.take_of_length_le (show o.rules.length<=k by omega)]
 cases zj (o.bL.map fun c=>c.ask) 0 21 0<;>rfl
theorem zEj (r:Rlm) (hr:FitR r) (i:Nat) (hi:i<r.bB.length):GC Tryz.prog 111 [iG i,.ep (rlC r)] (bG (ja r (r.bB.getD i dF))):=by
 have h1:=hr.bB
 refine zA Tryz.func111 ?_
 refine gE [0,1,3] ?_
 refine gR [.call (zZr r (r.bB.getD i dF) (hr.city _ (zJ hi)))] [3] ?_
 refine gT ?_
 rfl
theorem zEi (r:Rlm) (hr:FitR r) (i:Nat) (hi:i<r.bC.length):GC Tryz.prog 114 [iG i,.ep (rlC r)] (bG (wj r (r.bC.getD i dF))):=by
 have h1:=hr.bC
 have h2:=hr.bB
 have h3:=hr.groups
 refine zA Tryz.func114 ?_
 refine gE [0,1,3] ?_
 refine gR [.call (QQ (r.bC.getD i dF).city r.bB.length),.call (QQ (r.bC.getD i dF).group r.groups.length)] [3] ?_
 refine gT ?_
 unfold wj
 cases inV (r.bC.getD i dF).city r.bB.length<;>rfl
theorem zEh (r:Rlm) (hr:FitR r) (i:Nat) (hi:i<r.bD.length):GC Tryz.prog 115 [iG i,.ep (rlC r)] (bG (qe (r.bD.getD i dF))):=by
 have h1:=hr.bD
 refine zA Tryz.func115 ?_
 refine gE [0,1,3] ?_
 refine gR [.call (zQf (r.bD.getD i dF) (hr.order _ (zJ hi)).2.1 (hr.order _ (zJ hi)).2.2)] [3] ?_
 refine gT ?_
 rfl
theorem zSx (l:List ByteArray) (hl:l.length<=1000) (hs:∀s,s∈l->s.size<=9223372036854775807) (n:Int):GC Tryz.prog 109 [vW l,iG n,fG 110] (iG (zY l n (fun _=>true))):=by
 refine zA Tryz.func109 ?_
 refine gE [0,1,2,6] ?_
 refine gE [0,2,6,12] ?_
 refine zB ?_ ?_<;>intro c1<;>try simp only[toN]at c1
 ·refine gE [0,2,6] ?_
  refine gT ?_
  rw[zY,iP t11];rfl
 refine gE [0,2,6,14,15] ?_
 refine zI (α:=Nat) (fun i=>i<=l.length/\zd l (fun _=>true) 0=zd l (fun _=>true) i) (fun i=>[(15,iG i)]) (fun _=>[]) (fun i=>l.length-i) 0 ⟨by omega,rfl⟩ ?_
 rintro i ⟨hi,he⟩
 refine gE [0,2,6,14,15,16] ?_
 refine zB ?_ ?_<;>intro c2<;>try simp only[toN]at c2
 ·refine gE [0,2,6,7,14,15] ?_
  refine gR [.call (Wh l t11 hs i t11)] [0,2,6,7,8,14,15] ?_
  refine gE [0,2,6,7,8,14,15,22] ?_
  refine zP ?_ ?_<;>intro c3<;>try simp only[toN]at c3
  ·refine gE [0,2,6,7,14,15] ?_
   refine gT ?_
   rw[zY,iQ t11,he,zd,iP t11,iQ (by simpa using c3)];rfl
  refine gR [.call (zEk i)] [0,2,6,14,15,27] ?_
  refine zF ?_ ?_<;>intro c4<;>try simp only[bb,toN]at c4
  ·refine gE [0,2,6,14,15] ?_
   refine gT ?_
   rw[zY,iQ t11,he,zd,iP t11,iP (by simpa using c3),iQ (by simpa using c4)];rfl
  refine gE [0,2,6,14,15] ?_
  refine zD (i+1) ?_
  refine ⟨by omega,he.trans ?_⟩
  rw[zd,iP t11,iP (by simpa using c3),iP (by simpa using c4)]
 refine gE [6] ?_
 refine gT ?_
 rw[zY,iQ t11,he,zd,iQ t11];rfl
theorem zSw (l:List ByteArray) (hl:l.length<=1000) (hs:∀s,s∈l->s.size<=9223372036854775807) (n:Int) (r:Rlm) (hr:FitR r) (hb:l.length<=r.bB.length):GC Tryz.prog 109 [vW l,iG n,.fn (.func 111) [] [.ep (rlC r)]] (iG (zY l n (fun i=>ja r (r.bB.getD i dF)))):=by
 refine zA Tryz.func109 ?_
 refine gE [0,1,2,6] ?_
 refine gE [0,2,6,12] ?_
 refine zB ?_ ?_<;>intro c1<;>try simp only[toN]at c1
 ·refine gE [0,2,6] ?_
  refine gT ?_
  rw[zY,iP t11];rfl
 refine gE [0,2,6,14,15] ?_
 refine zI (α:=Nat) (fun i=>i<=l.length/\zd l (fun i=>ja r (r.bB.getD i dF)) 0=zd l (fun i=>ja r (r.bB.getD i dF)) i) (fun i=>[(15,iG i)]) (fun _=>[]) (fun i=>l.length-i) 0 ⟨by omega,rfl⟩ ?_ (hp:=t54)
 rintro i ⟨hi,he⟩
 refine gE [0,2,6,14,15,16] ?_
 refine zB ?_ ?_<;>intro c2<;>try simp only[toN]at c2
 ·refine gE [0,2,6,7,14,15] ?_
  refine gR [.call (Wh l t11 hs i t11)] [0,2,6,7,8,14,15] ?_
  refine gE [0,2,6,7,8,14,15,22] ?_
  refine zP ?_ ?_<;>intro c3<;>try simp only[toN]at c3
  ·refine gE [0,2,6,7,14,15] ?_
   refine gT ?_
   rw[zY,iQ t11,he,zd,iP t11,iQ (by simpa using c3)];rfl
  refine gR [.call (zEj r hr i t11)] [0,2,6,14,15,27] ?_
  refine zF ?_ ?_<;>intro c4<;>try simp only[bb,toN]at c4
  ·refine gE [0,2,6,14,15] ?_
   refine gT ?_
   rw[zY,iQ t11,he,zd,iP t11,iP (by simpa using c3),iQ (by simpa using c4)];rfl
  refine gE [0,2,6,14,15] ?_
  refine zD (i+1) ?_ (hp:=t54)
  refine ⟨by omega,he.trans ?_⟩
  rw[zd,iP t11,iP (by simpa using c3),iP (by simpa using c4)]
 refine gE [6] ?_
 refine gT ?_
 rw[zY,iQ t11,he,zd,iQ t11];rfl
theorem zSv (l:List ByteArray) (hl:l.length<=1000) (hs:∀s,s∈l->s.size<=9223372036854775807) (n:Int) (r:Rlm) (hr:FitR r) (hb:l.length<=r.bC.length):GC Tryz.prog 109 [vW l,iG n,.fn (.func 114) [] [.ep (rlC r)]] (iG (zY l n (fun i=>wj r (r.bC.getD i dF)))):=by
 refine zA Tryz.func109 ?_
 refine gE [0,1,2,6] ?_
 refine gE [0,2,6,12] ?_
 refine zB ?_ ?_<;>intro c1<;>try simp only[toN]at c1
 ·refine gE [0,2,6] ?_
  refine gT ?_
  rw[zY,iP t11];rfl
 refine gE [0,2,6,14,15] ?_
 refine zI (α:=Nat) (fun i=>i<=l.length/\zd l (fun i=>wj r (r.bC.getD i dF)) 0=zd l (fun i=>wj r (r.bC.getD i dF)) i) (fun i=>[(15,iG i)]) (fun _=>[]) (fun i=>l.length-i) 0 ⟨by omega,rfl⟩ ?_ (hp:=t54)
 rintro i ⟨hi,he⟩
 refine gE [0,2,6,14,15,16] ?_
 refine zB ?_ ?_<;>intro c2<;>try simp only[toN]at c2
 ·refine gE [0,2,6,7,14,15] ?_
  refine gR [.call (Wh l t11 hs i t11)] [0,2,6,7,8,14,15] ?_
  refine gE [0,2,6,7,8,14,15,22] ?_
  refine zP ?_ ?_<;>intro c3<;>try simp only[toN]at c3
  ·refine gE [0,2,6,7,14,15] ?_
   refine gT ?_
   rw[zY,iQ t11,he,zd,iP t11,iQ (by simpa using c3)];rfl
  refine gR [.call (zEi r hr i t11)] [0,2,6,14,15,27] ?_
  refine zF ?_ ?_<;>intro c4<;>try simp only[bb,toN]at c4
  ·refine gE [0,2,6,14,15] ?_
   refine gT ?_
   rw[zY,iQ t11,he,zd,iP t11,iP (by simpa using c3),iQ (by simpa using c4)];rfl
  refine gE [0,2,6,14,15] ?_
  refine zD (i+1) ?_ (hp:=t54)
  refine ⟨by omega,he.trans ?_⟩
  rw[zd,iP t11,iP (by simpa using c3),iP (by simpa using c4)]
 refine gE [6] ?_
 refine gT ?_
 rw[zY,iQ t11,he,zd,iQ t11];rfl
theorem zSu (l:List ByteArray) (hl:l.length<=1000) (hs:∀s,s∈l->s.size<=9223372036854775807) (n:Int) (r:Rlm) (hr:FitR r) (hb:l.length<=r.bD.length):GC Tryz.prog 109 [vW l,iG n,.fn (.func 115) [] [.ep (rlC r)]] (iG (zY l n (fun i=>qe (r.bD.getD i dF)))):=by
 refine zA Tryz.func109 ?_
 refine gE [0,1,2,6] ?_
 refine gE [0,2,6,12] ?_
 refine zB ?_ ?_<;>intro c1<;>try simp only[toN]at c1
 ·refine gE [0,2,6] ?_
  refine gT ?_
  rw[zY,iP t11];rfl
 refine gE [0,2,6,14,15] ?_
 refine zI (α:=Nat) (fun i=>i<=l.length/\zd l (fun i=>qe (r.bD.getD i dF)) 0=zd l (fun i=>qe (r.bD.getD i dF)) i) (fun i=>[(15,iG i)]) (fun _=>[]) (fun i=>l.length-i) 0 ⟨by omega,rfl⟩ ?_ (hp:=t54)
 rintro i ⟨hi,he⟩
 refine gE [0,2,6,14,15,16] ?_
 refine zB ?_ ?_<;>intro c2<;>try simp only[toN]at c2
 ·refine gE [0,2,6,7,14,15] ?_
  refine gR [.call (Wh l t11 hs i t11)] [0,2,6,7,8,14,15] ?_
  refine gE [0,2,6,7,8,14,15,22] ?_
  refine zP ?_ ?_<;>intro c3<;>try simp only[toN]at c3
  ·refine gE [0,2,6,7,14,15] ?_
   refine gT ?_
   rw[zY,iQ t11,he,zd,iP t11,iQ (by simpa using c3)];rfl
  refine gR [.call (zEh r hr i t11)] [0,2,6,14,15,27] ?_
  refine zF ?_ ?_<;>intro c4<;>try simp only[bb,toN]at c4
  ·refine gE [0,2,6,14,15] ?_
   refine gT ?_
   rw[zY,iQ t11,he,zd,iP t11,iP (by simpa using c3),iQ (by simpa using c4)];rfl
  refine gE [0,2,6,14,15] ?_
  refine zD (i+1) ?_ (hp:=t54)
  refine ⟨by omega,he.trans ?_⟩
  rw[zd,iP t11,iP (by simpa using c3),iP (by simpa using c4)]
 refine gE [6] ?_
 refine gT ?_
 rw[zY,iQ t11,he,zd,iQ t11];rfl
theorem zDj (r:Rlm) (hr:FitR r):GC Tryz.prog 117 [rlG r] (iG (usE r)):=by
 have h1:=hr.bE
 have h2:=hr.bB
 refine zA Tryz.func117 ?_
 refine gE [1,2] ?_
 refine gE [1,2,10] ?_
 refine zB ?_ ?_<;>intro c1<;>try simp only[toN]at c1
 ·refine gE [1,2] ?_
  refine gT ?_
  rw[usE,iP t11];rfl
 refine gE [1,2,12,13,14] ?_
 refine zI (α:=Nat) (fun i=>i<=r.bE.length/\usF r 0=usF r i) (fun i=>[(14,iG i)]) (fun _=>[]) (fun i=>r.bE.length-i) 0 ⟨by omega,rfl⟩ ?_
 rintro i ⟨hi,he⟩
 refine gE [1,2,12,13,14,15] ?_
 refine zB ?_ ?_<;>intro c2<;>try simp only[toN]at c2
 ·refine gE [1,2,3,4,12,13,14] ?_
  refine gR [.call (QQ (r.bE.getD i dF).fr r.bB.length),.call (QQ (r.bE.getD i dF).dst r.bB.length)] [1,2,3,4,12,13,14,44] ?_
  refine zF ?_ ?_<;>intro c3<;>try simp only[bb,toN]at c3
  ·refine gE [1,2,3,4,12,13,14] ?_
   refine gT ?_
   rw[usE,iQ t11,he,usF,iP t11,iP (by simpa [Vs]using c3)];rfl
  refine gP [] [1,2,4,12,13,14,48,49,50] ?_
  have hcut:zGc r.bE none (some (i:Int))=r.bE.take i:=by simp[zGc,loI,hiI]
  simp only[hcut]
  refine zI (α:=Nat) (fun k=>k<=i/\usI (r.bE.take i) (r.bE.getD i dF) 0=usI (r.bE.take i) (r.bE.getD i dF) k) (fun k=>[(50,iG k)]) (fun _=>[]) (fun k=>i-k) 0 ⟨by omega,rfl⟩ ?_
  rintro k ⟨hk1,hk⟩
  have htl:(r.bE.take i).length=i:=qI t11
  refine gE [1,2,4,12,13,14,48,49,50,51] ?_
  refine zB ?_ ?_<;>intro c4<;>try simp only[toN]at c4
  ·refine gE [1,2,4,6,12,13,14,48,49,50] ?_
   refine gE [1,2,4,12,13,14,48,49,50,65] ?_
   refine zF ?_ ?_<;>intro c5<;>try simp only[bb,toN]at c5
   ·refine gE [1,2,4,12,13,14,48,49,50] ?_
    refine gT ?_
    rw[usE,iQ t11,he,usF,iP t11,iQ (by simpa [Vs]using c3),iP (by rw[hk,usI,iP t11,iP (by simpa [HR]using c5)])];rfl
   refine gE [1,2,4,12,13,14,48,49,50] ?_
   refine zD (k+1) ?_
   refine ⟨by omega,hk.trans ?_⟩
   rw[usI,iP t11,iQ (by simp[HR];simp at c5;grind)]
  refine gE [1,2,12,13,14] ?_
  refine zD (i+1) ?_
  refine ⟨by omega,he.trans ?_⟩
  rw[usF,iP t11,iQ (by simpa [Vs]using c3),iQ (by rw[hk,usI,iQ t11];simp)]
 refine gE [2] ?_
 refine gT ?_
 rw[usE,iQ t11,he,usF,iQ t11];rfl
theorem zBe {n m:Int} (hn:yn n) (hm:m<=9223372036854775806):inV (IntKind.i64.wrap (n-1)) m=inV (n-1) m:=by
 obtain ⟨h1,h2⟩:=hn
 by_cases h:n= -9223372036854775808
 ·subst h
  have e:IntKind.i64.wrap ((-9223372036854775808:Int)-1)=9223372036854775807:=by decide
  rw[e]
  unfold inV
  have a:decide ((9223372036854775807:Int)<m)=false:=decide_eq_false t11
  have b:decide ((0:Int)≤-9223372036854775808-1)=false:=by decide
  rw[a,b];simp
 have e:IntKind.i64.wrap (n-1)=n-1:=by
  exact IntWalk.i64_in _ ⟨by omega,by omega⟩
 rw[e]
theorem zWj (r:Rlm) (hr:FitR r):GC Tryz.prog 118 [rlG r] (iG (WZ r)):=by
 have h1:=hr.rates
 have h2:=hr.halts
 have h3:=hr.cur
 have h4:=hr.bD
 refine zA Tryz.func118 ?_
 refine gE [1,2] ?_
 refine gE [1,2,10] ?_
 refine zB ?_ ?_<;>intro c1<;>try simp only[toN]at c1
 ·refine gE [1,2] ?_
  refine gT ?_
  rw[WZ,iP t11];rfl
 refine gE [1,2,12,13,14] ?_
 refine zI (α:=Nat) (fun i=>i<=r.rates.length/\rtF r 0=rtF r i) (fun i=>[(14,iG i)]) (fun _=>[]) (fun i=>r.rates.length-i) 0 ⟨by omega,rfl⟩ ?_
 rintro i ⟨hi,he⟩
 have hw1:=fun h:i<r.rates.length=>zBe (hr.rate _ (zJ h)).1 (m:=1073741824) t23
 have hw2:=fun h:i<r.rates.length=>zBe (hr.rate _ (zJ h)).2 (m:=1073741824) t23
 refine gE [1,2,12,13,14,15] ?_
 refine zB ?_ ?_<;>intro c2<;>try simp only[toN]at c2
 ·refine gE [1,2,4,12,13,14] ?_
  refine zG env true [.call (QQ (r.rates.getD i dF).fr r.bA.length),.call (QQ (r.rates.getD i dF).dst r.bA.length),.call (QQ (IntKind.i64.wrap ((r.rates.getD i dF).num-1)) 1073741824),.call (QQ (IntKind.i64.wrap ((r.rates.getD i dF).den-1)) 1073741824),.call (QQ (r.rates.getD i dF).since 100001)] [1,2,12,13,14,60] ?_
  simp only[hw1 (show i<r.rates.length by omega),hw2 (show i<r.rates.length by omega)]
  refine zF ?_ ?_<;>intro c3<;>try simp only[bb,toN]at c3
  ·refine gE [1,2,12,13,14] ?_
   refine gT ?_
   rw[WZ,iQ t11,iQ (by rw[he,rtF,iP t11,iP (by simpa [WX]using c3)];simp)];rfl
  refine gE [1,2,12,13,14] ?_
  refine zD (i+1) ?_
  refine ⟨by omega,he.trans ?_⟩
  rw[rtF,iP t11,iQ (by simpa [WX]using c3)]
 refine gE [1,2,65] ?_
 refine zB ?_ ?_<;>intro c4<;>try simp only[toN]at c4
 ·refine gE [1,2] ?_
  refine gT ?_
  have e:rtF r 0=true:=by rw[he,rtF,iQ t11]
  rw[WZ,iQ t11,iP e,iP t11];rfl
 refine gE [1,2,67,68,69] ?_
 refine zI (α:=Nat) (fun i=>i<=r.halts.length/\htF r 0=htF r i) (fun i=>[(69,iG i)]) (fun _=>[]) (fun i=>r.halts.length-i) 0 ⟨by omega,rfl⟩ ?_
 rintro k ⟨hk,hke⟩
 refine gE [1,2,67,68,69,70] ?_
 refine zB ?_ ?_<;>intro c5<;>try simp only[toN]at c5
 ·refine gE [1,2,6,67,68,69] ?_
  refine gR [.call (QQ (r.halts.getD k dF).ord r.bD.length)] [1,2,67,68,69,96] ?_
  refine zF ?_ ?_<;>intro c6<;>try simp only[bb,toN]at c6
  ·refine gE [1,2,67,68,69] ?_
   refine gT ?_
   have e:rtF r 0=true:=by rw[he,rtF,iQ t11]
   rw[WZ,iQ t11,iP e,iQ t11,iQ (by rw[hke,htF,iP t11,iP (by simpa [Wo]using c6)];simp)];rfl
  refine gE [1,2,67,68,69] ?_
  refine zD (k+1) ?_
  refine ⟨by omega,hke.trans ?_⟩
  rw[htF,iP t11,iQ (by simpa [Wo]using c6)]
 refine gE [2] ?_
 refine gT ?_
 have e:rtF r 0=true:=by rw[he,rtF,iQ t11]
 rw[WZ,iQ t11,iP e,iQ t11,iP (by rw[hke,htF,iQ t11])];rfl
theorem zQs (r:Rlm) (hr:FitR r):GC Tryz.prog 108 [rlG r] (.tup [vW (cityN r),vW (firmN r),vW (orderN r)]):=by
 have h1:=hr.bB
 have h2:=hr.bC
 have h3:=hr.bD
 refine zA Tryz.func108 ?_
 refine gE [1,2,3,4] ?_
 refine YV 2 9 1 (dF:ByteArray) zf t26 t26 ?_
 refine YV 3 9 1 (dF:ByteArray) zf t26 t26 ?_
 refine YV 4 9 1 (dF:ByteArray) zf t26 t26 ?_
 refine gE [1,2,3,4,12,13,14] ?_
 refine zI (α:=Nat) (fun i=>i<=r.bB.length) (fun i=>[(14,iG i),(2,.sl 1 1 0 ((r.bB.take i).map fun c=>c.name).length)]) (fun i=>[(1,some (.row 9 1 dF zf ((r.bB.take i).map fun c=>c.name) 0))]) (fun i=>r.bB.length-i) 0 (Nat.zero_le _) ?_
 rintro i hi
 have hl:((r.bB.take i).map fun c=>c.name).length=i:=by rw[List.length_map,qI hi]
 refine gE [1,2,3,4,12,13,14,15] ?_
 refine zB ?_ ?_<;>intro c1<;>try simp only[toN]at c1
 ·refine gE [1,2,3,4,6,12,13,14] ?_
  refine gU [.el dF zf [(r.bB.getD i dF).name],.el dF zf (((r.bB.take i).map fun c=>c.name)++ [(r.bB.getD i dF).name])] [1,2,3,4,12,13,14] ?_
  refine gE [1,2,3,4,12,13,14] ?_
  refine zD (i+1) ?_ (hp:=by simp[zC,JW (show i<r.bB.length by omega)])
  omega
 refine gE [1,2,3,4,25,26,27] ?_
 refine zI (α:=Nat) (fun i=>i<=r.bC.length) (fun i=>[(27,iG i),(3,.sl 2 1 0 ((r.bC.take i).map fun c=>c.name).length)]) (fun i=>[(2,some (.row 9 1 dF zf ((r.bC.take i).map fun c=>c.name) 0))]) (fun i=>r.bC.length-i) 0 (Nat.zero_le _) ?_
 rintro i hi
 have hl:((r.bC.take i).map fun c=>c.name).length=i:=by rw[List.length_map,qI hi]
 refine gE [1,2,3,4,25,26,27,28] ?_
 refine zB ?_ ?_<;>intro c2<;>try simp only[toN]at c2
 ·refine gE [1,2,3,4,8,25,26,27] ?_
  refine gU [.el dF zf [(r.bC.getD i dF).name],.el dF zf (((r.bC.take i).map fun c=>c.name)++ [(r.bC.getD i dF).name])] [1,2,3,4,25,26,27] ?_
  refine gE [1,2,3,4,25,26,27] ?_
  refine zD (i+1) ?_ (hp:=by simp[zC,JW (show i<r.bC.length by omega)])
  omega
 refine gE [2,3,4,38,39,40] ?_
 refine zI (α:=Nat) (fun i=>i<=r.bD.length) (fun i=>[(40,iG i),(4,.sl 3 1 0 ((r.bD.take i).map fun c=>c.name).length)]) (fun i=>[(3,some (.row 9 1 dF zf ((r.bD.take i).map fun c=>c.name) 0))]) (fun i=>r.bD.length-i) 0 (Nat.zero_le _) ?_
 rintro i hi
 have hl:((r.bD.take i).map fun c=>c.name).length=i:=by rw[List.length_map,qI hi]
 refine gE [2,3,4,38,39,40,41] ?_
 refine zB ?_ ?_<;>intro c3<;>try simp only[toN]at c3
 ·refine gE [2,3,4,10,38,39,40] ?_
  refine gU [.el dF zf [(r.bD.getD i dF).name],.el dF zf (((r.bD.take i).map fun c=>c.name)++ [(r.bD.getD i dF).name])] [2,3,4,38,39,40] ?_
  refine gE [2,3,4,38,39,40] ?_
  refine zD (i+1) ?_ (hp:=by simp[zC,JW (show i<r.bD.length by omega)])
  omega
 refine gE [2,3,4] ?_
 refine gT ?_
 simp[cityN,firmN,orderN,yR]
 exact ⟨List.take_of_length_le t32,List.take_of_length_le t32,List.take_of_length_le t32⟩
theorem FitR.cityN {r:Rlm} (h:FitR r):(cityN r).length<=1000/\(∀s,s∈Go.Gh.cityN r->s.size<=9223372036854775807)/\(Go.Gh.cityN r).length<=r.bB.length:=by
 unfold Go.Gh.cityN
 refine ⟨by rw[List.length_map];exact h.bB,fun s hs=> ?_,by rw[List.length_map];exact Nat.le_refl _⟩
 obtain ⟨c,hc,rfl⟩:=List.mem_map.1 hs
 exact (h.city c hc).name
theorem FitR.firmN {r:Rlm} (h:FitR r):(firmN r).length<=1000/\(∀s,s∈Go.Gh.firmN r->s.size<=9223372036854775807)/\(Go.Gh.firmN r).length<=r.bC.length:=by
 unfold Go.Gh.firmN
 refine ⟨by rw[List.length_map];exact h.bC,fun s hs=> ?_,by rw[List.length_map];exact Nat.le_refl _⟩
 obtain ⟨c,hc,rfl⟩:=List.mem_map.1 hs
 exact h.firm c hc
theorem FitR.orderN {r:Rlm} (h:FitR r):(orderN r).length<=1000/\(∀s,s∈Go.Gh.orderN r->s.size<=9223372036854775807)/\(Go.Gh.orderN r).length<=r.bD.length:=by
 unfold Go.Gh.orderN
 refine ⟨by rw[List.length_map];exact h.bD,fun s hs=> ?_,by rw[List.length_map];exact Nat.le_refl _⟩
 obtain ⟨c,hc,rfl⟩:=List.mem_map.1 hs
 exact (h.order c hc).1
theorem Wc (r:Rlm) (hr:FitR r):GC Tryz.prog 68 [rlG r] (iG (YO r)):=by
 have h1:=hr.groups
 refine zA Tryz.func68 ?_
 refine gE [1,2] ?_
 refine gR [.call (zQs r hr)] [1,2,3,4,5] ?_
 refine gR [.call (zSx r.bA hr.cur hr.curS 8)] [1,2,3,4,5,6] ?_
 refine gE [1,2,3,4,5,6,23] ?_
 refine zP ?_ ?_<;>intro c1<;>try simp only[toN]at c1
 ·refine gE [1,2,3,4,5] ?_
  refine gT ?_
  simp only[YO,orE]
  rw[iQ c1];rfl
 refine zz 0 ?_
 refine gR [.call (zSw (cityN r) hr.cityN.1 hr.cityN.2.1 40 r hr hr.cityN.2.2)] [1,2,4,5,7] ?_
 refine gE [1,2,4,5,7,29] ?_
 refine zP ?_ ?_<;>intro c2<;>try simp only[toN]at c2
 ·refine gE [1,2,4,5] ?_
  refine gT ?_
  simp only[YO,orE]
  rw[iP c1,iQ c2];rfl
 refine gE [1,2,4,5,34] ?_
 refine zB ?_ ?_<;>intro c3<;>try simp only[toN]at c3
 ·refine gE [1,2,4,5] ?_
  refine gT ?_
  simp only[YO,orE]
  rw[iP c1,iP c2,iP t11];rfl
 refine gE [1,2,4,5,36,37,38] ?_
 refine zI (α:=Nat) (fun i=>i<=r.groups.length/\yN r.groups 0=yN r.groups i) (fun i=>[(38,iG i)]) (fun _=>[]) (fun i=>r.groups.length-i) 0 ⟨by omega,rfl⟩ ?_ (hp:=t54)
 rintro i ⟨hi,he⟩
 refine gE [1,2,4,5,36,37,38,39] ?_
 refine zB ?_ ?_<;>intro c4<;>try simp only[toN]at c4
 ·refine gE [1,2,4,5,9,36,37,38] ?_
  refine gR [.call (QQ (r.groups.getD i dF) 10)] [1,2,4,5,36,37,38,45] ?_
  refine zF ?_ ?_<;>intro c5<;>try simp only[bb,toN]at c5
  ·refine gE [1,2,4,5,36,37,38] ?_
   refine gT ?_
   simp only[YO,orE]
   rw[iP c1,iP c2,iQ t11,iQ (by rw[he,yN,iP t11,iQ (by simpa using c5)];simp)];rfl
  refine gE [1,2,4,5,36,37,38] ?_
  refine zD (i+1) ?_ (hp:=t54)
  refine ⟨by omega,he.trans ?_⟩
  rw[yN,iP t11,iP (by simpa using c5)]
 refine gR [.call (zSv (firmN r) hr.firmN.1 hr.firmN.2.1 200 r hr hr.firmN.2.2)] [1,2,5,10] ?_
 refine gE [1,2,5,10,51] ?_
 refine zP ?_ ?_<;>intro c6<;>try simp only[toN]at c6
 ·refine gE [1,2,5] ?_
  refine gT ?_
  have hg:yN r.groups 0=true:=by rw[he,yN,iQ t11]
  simp only[YO,orE]
  rw[iP c1,iP c2,iQ t11,iP hg,iQ c6];rfl
 refine gR [.call (zSu (orderN r) hr.orderN.1 hr.orderN.2.1 20 r hr hr.orderN.2.2)] [1,2,11] ?_
 refine gE [1,2,11,57] ?_
 refine zP ?_ ?_<;>intro c7<;>try simp only[toN]at c7
 ·refine gE [1,2] ?_
  refine gT ?_
  have hg:yN r.groups 0=true:=by rw[he,yN,iQ t11]
  simp only[YO,orE]
  rw[iP c1,iP c2,iQ t11,iP hg,iP c6,iQ c7];rfl
 refine gR [.call (zDj r hr)] [1,2,12] ?_
 refine gE [1,2,12,62] ?_
 refine zP ?_ ?_<;>intro c8<;>try simp only[toN]at c8
 ·refine gE [1,2] ?_
  refine gT ?_
  have hg:yN r.groups 0=true:=by rw[he,yN,iQ t11]
  simp only[YO,orE]
  rw[iP c1,iP c2,iQ t11,iP hg,iP c6,iP c7,iQ c8];rfl
 refine gR [.call (zWj r hr)] [2] ?_
 refine gT ?_
 have hg:yN r.groups 0=true:=by rw[he,yN,iQ t11]
 simp only[YO,orE]
 rw[iP c1,iP c2,iQ t11,iP hg,iP c6,iP c7,iP c8];rfl
abbrev Qw (k:Nat) (t:Tm):G:= .agg [iG t.op,iG t.n,.d (.row dF (tmC k) t.args)]
def Rul.term (x:Rul):Tm:= .mk x.op x.n x.args
def Yf:Nat->Tm->Prop
 |0,t=>t.args= []
 |k+1,t=>t.args.length<=4000000000000/\∀a,a∈t.args->Yf k a
structure Tnr where
 kind:Int
 n:Int
 unit:Int
deriving DecidableEq
instance :Inhabited Tnr:=⟨⟨0,0,0⟩⟩
abbrev tnG (x:Tnr):G:= .agg [iG x.kind,iG x.n,iG x.unit]
structure Bil where
 bP:Int
 bO:Int
 bQ:Int
 sum:Int
 cur:Int
 ten:Tnr
 day:Int
 city:Int
 pay:Int
 need:Int
 rate:Int
 flags:Int
 parts:Int
deriving DecidableEq
instance :Inhabited Bil:=⟨⟨0,0,0,0,0,dF,0,0,0,0,0,0,0⟩⟩
def bilC (x:Bil):List D:=[.sc (.int .i64 x.bP),.sc (.int .i64 x.bO),.sc (.int .i64 x.bQ),.sc (.int .i64 x.sum),.sc (.int .i64 x.cur),.sc (.int .i64 x.ten.kind),.sc (.int .i64 x.ten.n),.sc (.int .i64 x.ten.unit),.sc (.int .i64 x.day),.sc (.int .i64 x.city),.sc (.int .i64 x.pay),.sc (.int .i64 x.need),.sc (.int .i64 x.rate),.sc (.int .i64 x.flags),.sc (.int .i64 x.parts)]
abbrev zCr (x:Bil):G:= .agg [iG x.bP,iG x.bO,iG x.bQ,iG x.sum,iG x.cur,iG x.ten.kind,iG x.ten.n,iG x.ten.unit,iG x.day,iG x.city,iG x.pay,iG x.need,iG x.rate,iG x.flags,iG x.parts]
structure Sgn where
 kind:Int
 part:Int
 who:Int
 for_:Int
 to_:Int
 sum:Int
 day:Int
 city:Int
 flags:Int
deriving DecidableEq
instance :Inhabited Sgn:=⟨⟨0,0,0,0,0,0,0,0,0⟩⟩
def sgC (x:Sgn):List D:=[.sc (.int .i64 x.kind),.sc (.int .i64 x.part),.sc (.int .i64 x.who),.sc (.int .i64 x.for_),.sc (.int .i64 x.to_),.sc (.int .i64 x.sum),.sc (.int .i64 x.day),.sc (.int .i64 x.city),.sc (.int .i64 x.flags)]
abbrev sgG (x:Sgn):G:= .agg [iG x.kind,iG x.part,iG x.who,iG x.for_,iG x.to_,iG x.sum,iG x.day,iG x.city,iG x.flags]
structure Alt where
 at_:Int
 sum:Int
deriving DecidableEq
instance :Inhabited Alt:=⟨⟨0,0⟩⟩
def alC (x:Alt):List D:=[.sc (.int .i64 x.at_),.sc (.int .i64 x.sum)]
abbrev alG (x:Alt):G:= .agg [iG x.at_,iG x.sum]
structure Act where
 kind:Int
 who:Int
 to_:Int
 part:Int
 at_:Int
 sum:Int
 day:Int
 city:Int
 form:Int
deriving DecidableEq
instance :Inhabited Act:=⟨⟨0,0,0,0,0,0,0,0,0⟩⟩
def acC (x:Act):List D:=[.sc (.int .i64 x.kind),.sc (.int .i64 x.who),.sc (.int .i64 x.to_),.sc (.int .i64 x.part),.sc (.int .i64 x.at_),.sc (.int .i64 x.sum),.sc (.int .i64 x.day),.sc (.int .i64 x.city),.sc (.int .i64 x.form)]
abbrev acG (x:Act):G:= .agg [iG x.kind,iG x.who,iG x.to_,iG x.part,iG x.at_,iG x.sum,iG x.day,iG x.city,iG x.form]
structure Fct where
 kind:Int
 at_:Int
 n:Int
deriving DecidableEq
instance :Inhabited Fct:=⟨⟨0,0,0⟩⟩
def fcC (x:Fct):List D:=[.sc (.int .i64 x.kind),.sc (.int .i64 x.at_),.sc (.int .i64 x.n)]
abbrev fcG (x:Fct):G:= .agg [iG x.kind,iG x.at_,iG x.n]
structure Fil where
 bill:Bil
 bF:List Sgn
 bH:List Alt
 acts:List Act
 facts:List Fct
deriving DecidableEq
instance :Inhabited Fil:=⟨⟨dF,[],[],[],[]⟩⟩
def fiC (x:Fil):List D:=[.sc (.int .i64 x.bill.bP),.sc (.int .i64 x.bill.bO),.sc (.int .i64 x.bill.bQ),.sc (.int .i64 x.bill.sum),.sc (.int .i64 x.bill.cur),.sc (.int .i64 x.bill.ten.kind),.sc (.int .i64 x.bill.ten.n),.sc (.int .i64 x.bill.ten.unit),.sc (.int .i64 x.bill.day),.sc (.int .i64 x.bill.city),.sc (.int .i64 x.bill.pay),.sc (.int .i64 x.bill.need),.sc (.int .i64 x.bill.rate),.sc (.int .i64 x.bill.flags),.sc (.int .i64 x.bill.parts),.row dF sgC x.bF,.row dF alC x.bH,.row dF acC x.acts,.row dF fcC x.facts]
abbrev fiG (x:Fil):G:= .agg [iG x.bill.bP,iG x.bill.bO,iG x.bill.bQ,iG x.bill.sum,iG x.bill.cur,iG x.bill.ten.kind,iG x.bill.ten.n,iG x.bill.ten.unit,iG x.bill.day,iG x.bill.city,iG x.bill.pay,iG x.bill.need,iG x.bill.rate,iG x.bill.flags,iG x.bill.parts,.d (.row dF sgC x.bF),.d (.row dF alC x.bH),.d (.row dF acC x.acts),.d (.row dF fcC x.facts)]
structure Chn where
 bF:List Int
 bM:Int
 bN:Int
 bearer:Bool
 agent:Int
 late:List Int
deriving DecidableEq
instance :Inhabited Chn:=⟨⟨[],0,0,false,0,[]⟩⟩
abbrev chG (x:Chn):G:= .agg [.d (.row dF inC x.bF),iG x.bM,iG x.bN,bG x.bearer,iG x.agent,.d (.row dF inC x.late)]
structure Cel where
 known:Bool
 n:Int
deriving DecidableEq
instance :Inhabited Cel:=⟨⟨false,0⟩⟩
def ceC (x:Cel):List D:=[.sc (.bool x.known),.sc (.int .i64 x.n)]
abbrev ceG (x:Cel):G:= .agg [bG x.known,iG x.n]
structure Cas where
 file:Fil
 sign:Int
 bM:Int
 defence:Int
 due:Int
 day:Int
deriving DecidableEq
instance :Inhabited Cas:=⟨⟨dF,0,0,0,0,0⟩⟩
def caC (x:Cas):List D:=[.sc (.int .i64 x.file.bill.bP),.sc (.int .i64 x.file.bill.bO),.sc (.int .i64 x.file.bill.bQ),.sc (.int .i64 x.file.bill.sum),.sc (.int .i64 x.file.bill.cur),.sc (.int .i64 x.file.bill.ten.kind),.sc (.int .i64 x.file.bill.ten.n),.sc (.int .i64 x.file.bill.ten.unit),.sc (.int .i64 x.file.bill.day),.sc (.int .i64 x.file.bill.city),.sc (.int .i64 x.file.bill.pay),.sc (.int .i64 x.file.bill.need),.sc (.int .i64 x.file.bill.rate),.sc (.int .i64 x.file.bill.flags),.sc (.int .i64 x.file.bill.parts),.row dF sgC x.file.bF,.row dF alC x.file.bH,.row dF acC x.file.acts,.row dF fcC x.file.facts,.sc (.int .i64 x.sign),.sc (.int .i64 x.bM),.sc (.int .i64 x.defence),.sc (.int .i64 x.due),.sc (.int .i64 x.day)]
abbrev caG (x:Cas):G:= .agg [iG x.file.bill.bP,iG x.file.bill.bO,iG x.file.bill.bQ,iG x.file.bill.sum,iG x.file.bill.cur,iG x.file.bill.ten.kind,iG x.file.bill.ten.n,iG x.file.bill.ten.unit,iG x.file.bill.day,iG x.file.bill.city,iG x.file.bill.pay,iG x.file.bill.need,iG x.file.bill.rate,iG x.file.bill.flags,iG x.file.bill.parts,.d (.row dF sgC x.file.bF),.d (.row dF alC x.file.bH),.d (.row dF acC x.file.acts),.d (.row dF fcC x.file.facts),iG x.sign,iG x.bM,iG x.defence,iG x.due,iG x.day]
structure Sad where
 cell:Cel
 order:Int
 path:List Int
 err:Int
deriving DecidableEq
instance :Inhabited Sad:=⟨⟨dF,0,[],0⟩⟩
abbrev sdG (x:Sad):G:= .agg [bG x.cell.known,iG x.cell.n,iG x.order,.d (.row dF inC x.path),iG x.err]
structure Efc where
 sign:Int
 kind:Int
 firm:Int
 binds:Int
 text:Int
 sum:Int
 recourse:Bool
deriving DecidableEq
instance :Inhabited Efc:=⟨⟨0,0,0,0,0,0,false⟩⟩
def efC (x:Efc):List D:=[.sc (.int .i64 x.sign),.sc (.int .i64 x.kind),.sc (.int .i64 x.firm),.sc (.int .i64 x.binds),.sc (.int .i64 x.text),.sc (.int .i64 x.sum),.sc (.bool x.recourse)]
abbrev efG (x:Efc):G:= .agg [iG x.sign,iG x.kind,iG x.firm,iG x.binds,iG x.text,iG x.sum,bG x.recourse]
structure Kpt where
 shown:Int
 protest:Int
 notice:Int
 all:Int
deriving DecidableEq
instance :Inhabited Kpt:=⟨⟨0,0,0,0⟩⟩
abbrev kpG (x:Kpt):G:= .agg [iG x.shown,iG x.protest,iG x.notice,iG x.all]
structure Onr where
 firm:Int
 sign:Int
 state:Int
deriving DecidableEq
instance :Inhabited Onr:=⟨⟨0,0,0⟩⟩
abbrev onG (x:Onr):G:= .agg [iG x.firm,iG x.sign,iG x.state]
structure Clm where
 bJ:Int
 bI:Int
 part:Int
 sign:Int
 by_:Int
 turn:Int
 sum:Int
 cur:Int
 state:Int
deriving DecidableEq
instance :Inhabited Clm:=⟨⟨0,0,0,0,0,0,0,0,0⟩⟩
def clC (x:Clm):List D:=[.sc (.int .i64 x.bJ),.sc (.int .i64 x.bI),.sc (.int .i64 x.part),.sc (.int .i64 x.sign),.sc (.int .i64 x.by_),.sc (.int .i64 x.turn),.sc (.int .i64 x.sum),.sc (.int .i64 x.cur),.sc (.int .i64 x.state)]
abbrev clG (x:Clm):G:= .agg [iG x.bJ,iG x.bI,iG x.part,iG x.sign,iG x.by_,iG x.turn,iG x.sum,iG x.cur,iG x.state]
structure Owd where
 sum:Int
 interest:Int
 costs:Int
 exchange:Int
 paid:Int
 rest:Int
 cur:Int
deriving DecidableEq
instance :Inhabited Owd:=⟨⟨0,0,0,0,0,0,0⟩⟩
abbrev owG (x:Owd):G:= .agg [iG x.sum,iG x.interest,iG x.costs,iG x.exchange,iG x.paid,iG x.rest,iG x.cur]
structure Stp where
 bJ:Int
 bI:Int
 sign:Int
 sum:Int
deriving DecidableEq
instance :Inhabited Stp:=⟨⟨0,0,0,0⟩⟩
def stC (x:Stp):List D:=[.sc (.int .i64 x.bJ),.sc (.int .i64 x.bI),.sc (.int .i64 x.sign),.sc (.int .i64 x.sum)]
structure Rto where
 num:Int
 den:Int
deriving DecidableEq
instance :Inhabited Rto:=⟨⟨0,0⟩⟩
abbrev rqG (x:Rto):G:= .agg [iG x.num,iG x.den]
end Go.Gh
